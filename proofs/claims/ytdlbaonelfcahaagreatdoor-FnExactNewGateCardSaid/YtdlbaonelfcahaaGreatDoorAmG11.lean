import Derived.Test.YtdlbaonelfcahaaGreatDoorAmG10
import Derived.Test.YtdlbaonelfcahaaGreatDoorAmG6
import Derived.Test.YtdlbaonelfcahaaGreatDoorAmG9
import Derived.Test.YtdlbaonelfcahaaGreatDoorAmG8
import Derived.Lib.Join
import Derived.Test.YtdlbaonelfcahaaGreatDoorAmG7
import Derived.Lib.LaidTab
set_option linter.unusedVariables false
set_option linter.unusedSimpArgs false
namespace Go.AM
theorem C8{pre row post:List AV}{i n:Nat}(hi:i+n≤row.length):sub (pre++row++post) (pre.length+i) n=sub row i n:=by
  unfold sub
  rw[if_pos (by simp;omega),if_pos hi,List.append_assoc,List.drop_append,List.drop_eq_nil_of_le (by omega),List.nil_append,Nat.add_sub_cancel_left,List.drop_append_of_le_length (by omega),List.take_append_of_le_length (by rw[List.length_drop];omega)]
theorem An{pre row post vs:List AV}{i:Nat}(hi:i+vs.length≤row.length):over (pre++row++post) (pre.length+i) vs=pre++over row i vs++post:=by
  unfold over
  rw[List.append_assoc pre row post,List.take_append,List.take_of_length_le (show pre.length≤pre.length+i by omega),Nat.add_sub_cancel_left,List.take_append_of_le_length (show i≤row.length by omega),
    List.drop_append,List.drop_eq_nil_of_le (show pre.length≤pre.length+i+vs.length by omega),List.nil_append,show pre.length+i+vs.length-pre.length=i+vs.length by omega,List.drop_append_of_le_length hi]
  simp only[List.append_assoc]
structure mH (H:AH) (b g:Nat) (pre row post:List AV):Prop where
  eq:bA H b=some (g,pre++row++post)
theorem mH.lt{H:AH}{b g:Nat}{pre row post:List AV}(m:mH H b g pre row post):b<H.length:=dd m.eq
theorem mH.cells{H:AH}{b g:Nat}{pre row post:List AV}(m:mH H b g pre row post)(e:List AV)(L:List (List AV))(i n:Nat)(hi:i+n≤row.length):(St.mk e L H).cells (.gp b g (pre.length+i)) n=sub row i n:=by
  rw[ee m.eq,C8 hi]
theorem mH.xt{H:AH}{b g:Nat}{pre row post:List AV}(m:mH H b g pre row post)(e:List AV)(L:List (List AV))(n:Nat)(hi:n≤row.length):(St.mk e L H).cells (.gp b g pre.length) n=sub row 0 n:=by
  have:=m.cells e L 0 n (by omega);rwa[Nat.add_zero]at this
theorem mH.frame{H H':AH}{b g:Nat}{pre row post:List AV}(m:mH H b g pre row post)(h:H'[b]? = H[b]?):mH H' b g pre row post:=⟨by have:=m.eq;unfold bA at this ⊢;rw[h];exact this⟩
theorem mH.store{H:AH}{b g:Nat}{pre row post:List AV}(m:mH H b g pre row post){i:Nat}{vs:List AV}(hi:i+vs.length≤row.length)(hv:vs.all bk=true):
    ∃H',(∀(e:List AV) (L:List (List AV)),(St.mk e L H).store (.gp b g (pre.length+i)) vs=some ⟨e,L,H'⟩)∧mH H' b g pre (over row i vs) post∧H'.length=H.length∧∀c,c≠b→H'[c]? = H[c]?:=by
  refine⟨H.set b (some (g,pre++over row i vs++post)),fun e L=>?_,⟨?_⟩,by simp,fun c hc=>List.getElem?_set_ne (Ne.symm hc)⟩
  · simp only[St.store,m.eq,Option.bind_some,if_true]
    rw[if_pos (by simp;omega),hv,if_pos rfl,An hi]
  · have:=m.lt
    simp[bA,this]
theorem mH.nil{H:AH}{b g:Nat}{row:List AV}(h:bA H b=some (g,row)):mH H b g [] row []:=⟨by simpa using h⟩
theorem mH.snap{H:AH}{b g:Nat}{pre row post ys:List AV}(m:mH H b g pre row post)(s:gU H (.agg row) (.agg ys)):gU H (.gp b g pre.length) (.ip true ys):=by
  have key:∀(i:Nat) (y:AV),ys[i]? = some y→∃x,row[i]? = some x∧gU H x y:=by
    cases s with
    | same=>exact fun i y hy=>⟨y,hy,.same _⟩
    | agg _ _ h1 f h2 r=>exact fun i y hy=>⟨f i,h2 i y hy,r i y hy⟩
  refine .gp b g pre.length (pre++row++post) ys (fun i=>row.getD i .any) (b6 m.eq) (fun j x hx=>?_) (fun j x hx=>?_)
  · obtain⟨z,hz,_⟩:=key j x hx
    have hj:=aK hz
    rw[List.append_assoc,List.getElem?_append_right (by omega),Nat.add_sub_cancel_left,List.getElem?_append_left hj,hz]
    simp[List.getD_eq_getElem?_getD,hz]
  · obtain⟨z,hz,hs⟩:=key j x hx
    simpa[List.getD_eq_getElem?_getD,hz]using hs
theorem bO.DK{H:AH}{w:AV}{sz:Nat}{xs:List (List CD)}{fp:List Nat}(o:bO H w (.sl sz xs) fp)(nd:fp.Nodup){k:Nat}(hk:k<xs.length):
    ∃b g pre row post f,cm sz w (k:Int)=some (.gp b g pre.length)∧mH H b g pre row post∧row.length=sz∧aV H row xs[k] f∧f.Nodup∧(∀c∈f,c∈fp)∧b∈fp∧b∉f∧
      ∀(H':AH) (row':List AV) (d':List CD) (f':List Nat),aV H' row' d' f'→f'.Nodup→d'.length=sz→(∀c∈f',c∈f∨c∉fp)→mH H' b g pre row' post→(∀c∈fp,c∉f→c≠b→H'[c]? = H[c]?)→
        ∃fp',bO H' w (.sl sz (xs.set k d')) fp'∧fp'.Nodup∧(∀c∈fp',c∈fp∨c∈f'):=by
  rcases o.fj with⟨rfl,e,rfl⟩|⟨b,g,cap,ex,az,tail,fp',rfl,rfl,hg,hsz,ht,hc,hown⟩
  · subst e;simp at hk
  obtain⟨nb,nd'⟩:=List.nodup_cons.1 nd
  have hfl:∀d:List CD,(xs.set k d).flatten=(xs.take k).flatten++(d++(xs.drop (k+1)).flatten):=fun d=>by
    rw[←List.flatten_cons,←List.flatten_append,List.set_eq_take_append_cons_drop,if_pos hk]
  have hf0:=hfl xs[k]
  rw[List.set_getElem_self]at hf0
  rw[hf0]at hown
  obtain⟨a1,a2,f1,f2,e1,e2,o1,o2⟩:=hown.split
  obtain⟨a3,a4,f3,f4,e3,e4,o3,o4⟩:=o2.split
  subst e1 e2 e3 e4
  have l1:a1.length=k*sz:=by
    rw[o1.len]
    have:∀(ys:List (List CD)),(∀l∈ys,l.length=sz)→ys.flatten.length=ys.length*sz:=fun ys=>by
      induction ys with
      | nil=>intro _;simp
      | cons y ys ih=>intro h;rw[List.flatten_cons,List.length_append,ih (fun l hl=>h l (by simp[hl])),h y (by simp),List.length_cons,Nat.add_mul];omega
    rw[this _ (fun l hl=>hsz l (List.mem_of_mem_take hl)),List.length_take,Nat.min_eq_left (by omega)]
  have l3:a3.length=sz:=by rw[o3.len];exact hsz _ (List.getElem_mem hk)
  obtain⟨n1,n2,n3⟩:=List.nodup_append.1 nd'
  obtain⟨n4,n5,n6⟩:=List.nodup_append.1 n2
  refine⟨b,g,a1,a3,a4++tail,f3,by have:=fo (b:=b) (g:=g) (off:=0) (len:=xs.length) (cap:=cap) (sz:=sz) (ex:=ex) hk;rwa[Nat.zero_add,←l1]at this,⟨by rw[hg];simp⟩,l3,o3,n4,fun c hc=>by simp[hc],by simp,fun hb=>nb (by simp[hb]),?_⟩
  intro H' row' d' f' o' nd2 hdl hf' hm fr
  have hbf':b∉f':=fun hb=>by
    rcases hf' b hb with q|q
    · exact nb (by simp[q])
    · exact q (by simp)
  have d1:∀c∈f',c∉f1:=fun c hc h1=>by
    rcases hf' c hc with q|q
    · exact n3 c h1 c (List.mem_append_left _ q) rfl
    · exact q (by simp[h1])
  have d4:∀c∈f',c∉f4:=fun c hc h1=>by
    rcases hf' c hc with q|q
    · exact n6 c q c h1 rfl
    · exact q (by simp[h1])
  have o1':=o1.frame (h':=H') fun c hc=>fr c (by simp[hc]) (fun h3=>n3 c hc c (List.mem_append_left _ h3) rfl) (fun e=>nb (by rw[←e];simp[hc]))
  have o4':=o4.frame (h':=H') fun c hc=>fr c (by simp[hc]) (fun h3=>n6 c h3 c hc rfl) (fun e=>nb (by rw[←e];simp[hc]))
  refine⟨b::(f1++(f'++f4)),?_,List.nodup_cons.2 ⟨?_,List.nodup_append.2 ⟨n1,List.nodup_append.2 ⟨nd2,n5,fun x hx y hy e=>d4 x hx (e▸hy)⟩,fun x hx y hy e=>?_⟩⟩,fun c hc=>?_⟩
  · have:=bO.sl_mk (h:=H') (b:=b) (g:=g) (cap:=cap) (sz:=sz) (ex:=ex) (zas:=a1++(row'++a4)) (tail:=tail) (xs:=xs.set k d') (fp:=f1++(f'++f4))
      (by rw[hm.eq];simp) (fun y hy=>by
        rcases List.mem_or_eq_of_mem_set hy with g|g
        · exact hsz y g
        · rw[g,hdl]) ht (by simpa using hc) (by rw[hfl];exact o1'.append (o'.append o4'))
    simpa using this
  · simp only[List.mem_append,not_or]
    exact⟨fun h=>nb (by simp[h]),hbf',fun h=>nb (by simp[h])⟩
  · subst e
    rcases List.mem_append.1 hy with q|q
    · exact d1 x q hx
    · exact n3 x hx x (List.mem_append_right _ q) rfl
  · simp only[List.mem_cons,List.mem_append]at hc ⊢
    rcases hc with q|q|q|q
    · exact .inl (.inl q)
    · exact .inl (.inr (.inl q))
    · exact .inr q
    · exact .inl (.inr (.inr (.inr q)))
end Go.AM
namespace Go.AM
section
variable {P:Program} {Θ:jL} {Γ:bG}
theorem qo{f g:Nat→D→Prop}:∀{ds:List (Nat×D)},(∀i d,f i d→g i d)→qj f ds→qj g ds
  | [],_,_=>trivial
  | (_,_)::_,h,a=>⟨h _ _ a.1,qo h a.2⟩
theorem qd{f g:Nat→Option (List Nat)→D→Prop}:∀{ds:List (Nat×Option (List Nat)×D)},(∀i b d,f i b d→g i b d)→lI f ds→lI g ds
  | [],_,_=>trivial
  | (_,_,_)::_,h,a=>⟨h _ _ _ a.1,qd h a.2⟩
theorem iX{gl:Gl}{os:List O}{K K':St→Prop}(hk:∀s,K s→K' s):∀(n:Nat) (d:D) (s:St),bV P Γ gl os K n d s→bV P Γ gl os K' n d s
  | 0,.done,s,h=>hk s h
  | n+1,.done,s,h=>hk s h
  | n+1,.q i d,s,h=>fW (fun s' h=>iX hk n d s' h) h
  | n+1,.st i rs d,s,h=>fW (fun s' h=>⟨h.1,iX hk n d s' h.2⟩) h
  | n+1,.all ds,s,h=>qo (fun i d h=>fW (fun s' h=>⟨h.1,iX hk n d s' h.2⟩) h) h
  | n+1,.mix ds,s,h=>qd (fun i b d h=>fW (fun s' h=>⟨h.1,iX hk n d s' h.2⟩) h) h
  | 0,.mix _,_,h=>h.elim
  | 0,.q _ _,_,h=>h.elim
  | 0,.st _ _ _,_,h=>h.elim
  | 0,.all _,_,h=>h.elim
theorem uG{gl:Gl}:∀(c:C) {Q Q':AE→St→Prop} (s:St),(∀e s,Q e s→Q' e s)→aw P Θ Γ gl c Q s→aw P Θ Γ gl c Q' s:=by
  intro c
  induction c with
  | skip=>exact fun s hq h=>hq _ s h
  | reg os=>exact fun s hq h=>gC os s (hq _) h
  | regD os af=>
    intro Q Q' s hq h
    simp only[aw]at h ⊢
    split at h
    · exact iX (hq _) _ _ s h
    · exact h.elim
  | seq a b iha ihb=>
    intro Q Q' s hq h
    exact iha s (fun e s he=>by cases e<;>simp only[hJ]at he ⊢<;>first|exact ihb s hq he|exact hq _ s he) h
  | cond c a b iha ihb=>
    intro Q Q' s hq h
    simp only[aw]at h ⊢
    split at h
    · exact⟨fun ht=>iha s hq (h.1 ht),fun ht=>ihb s hq (h.2 ht)⟩
    · exact h.elim
  | block id c ih=>
    intro Q Q' s hq h
    refine ih s (fun e s he=>?_) h
    cases e with
    | normal=>exact hq _ s he
    | exit i=>
      simp only[gH]at he ⊢
      split at he
      · rename_i hi;rw[if_pos hi];exact hq _ s he
      · rename_i hi;rw[if_neg hi];exact hq _ s he
    | ret=>exact hq _ s he
  | loop c=>exact fun s hq h=>TC.mono h hq
  | exit id=>exact fun s hq h=>hq _ s h
  | ret=>exact fun s hq h=>hq _ s h
def Ci(R:St→Prop)(Q:AE→St→Prop):AE→St→Prop
  | .normal,s=>R s
  | e,s=>Q e s
theorem LY(R:St→Prop)(Q:AE→St→Prop):Ci R Q .normal=R:=rfl
theorem Tt(R:St→Prop)(Q:AE→St→Prop):Ci R Q .ret=Q .ret:=rfl
theorem RT(R:St→Prop)(Q:AE→St→Prop)(i:Nat):Ci R Q (.exit i)=Q (.exit i):=rfl
theorem Ka{gl:Gl}{a b:C}{Q:AE→St→Prop}{s:St}(R:St→Prop)(h1:aw P Θ Γ gl a (Ci R Q) s)(h2:∀s,R s→aw P Θ Γ gl b Q s):aw P Θ Γ gl (.seq a b) Q s:=
  uG a s (fun e s he=>by cases e<;>first|exact h2 s he|exact he) h1
theorem Eb{gl:Gl}{a b c:C}{Q:AE→St→Prop}{s:St}(R:St→Prop)(h1:aw P Θ Γ gl (.seq a b) (Ci R Q) s)(h2:∀s,R s→aw P Θ Γ gl c Q s):aw P Θ Γ gl (.seq a (.seq b c)) Q s:=
  uG a s (fun e s he=>by
    cases e with
    | normal=>exact uG b s (fun e s he=>by cases e<;>first|exact h2 s he|exact he) he
    | exit i=>exact he
    | ret=>exact he) h1
def xR(e:List AV)(n:Nat):AV:=e.getD n .any
theorem BK{e:List AV}{loc:List (List AV)}{h:AH}{n:Nat}(hn:e.length=n):(⟨e,loc,h⟩:St)=⟨(List.range n).map (xR e),loc,h⟩:=by
  subst hn
  congr 1
  apply List.ext_getElem (by simp)
  intro i h1 h2
  simp[xR,List.getD_eq_getElem?_getD,List.getElem?_eq_getElem h1]
end
theorem xC:type_of% (And.intro @LY (And.intro @Tt @RT)):=And.intro @LY (And.intro @Tt @RT)
end Go.AM
namespace Go.AM
section
variable {P:Program} {Θ:jL} {Γ:bG}
end
end Go.AM
namespace Go.AM
theorem CY{H:AH}{cells:List AV}{v:aS}{f:List Nat}(o:aV H cells v.cd f):∃wE w2 wL w4 fE f2 fL f4,cells=[.int .i64 v.id,wE,w2,wL,w4]∧f=fE++(f2++(fL++f4))∧bO H wE (.sl 12 (v.entities.map an.cd)) fE∧bO H w2 (.sl 7 (v.loop.map aA.cd)) f2∧bO H wL (.sl 7 (v.links.map aM.cd)) fL∧bO H w4 (.sl 13 (v.out.map aj.cd)) f4:=by
  simp only[aS.cd,cT,cO,dU,dT,dM]at o
  obtain⟨_,_,_,_,rfl,rfl,⟨rfl,rfl⟩,⟨wE,_,fE,_,rfl,rfl,oE,⟨w2,_,f2,_,rfl,rfl,o2,⟨wL,_,fL,_,rfl,rfl,oL,⟨w4,_,f4,_,rfl,rfl,o4,⟨rfl,rfl⟩⟩⟩⟩⟩⟩:=o
  exact⟨wE,w2,wL,w4,fE,f2,fL,f4,rfl,by simp,oE,o2,oL,o4⟩
theorem VZ{H:AH}{v:aS}{wE w2 wL w4:AV}{fE f2 fL f4:List Nat}(oE:bO H wE (.sl 12 (v.entities.map an.cd)) fE)(o2:bO H w2 (.sl 7 (v.loop.map aA.cd)) f2)(oL:bO H wL (.sl 7 (v.links.map aM.cd)) fL)(o4:bO H w4 (.sl 13 (v.out.map aj.cd)) f4):
    aV H [.int .i64 v.id,wE,w2,wL,w4] v.cd (fE++(f2++(fL++f4))):=by
  have e:f4=f4++[]:=by simp
  rw[e]
  exact .i (.o oE (.o o2 (.o oL (.o o4 .nil))))
def dj(f g:List Nat):Prop:=∀c∈f,c∉g
theorem dj.symm{f g:List Nat}(h:dj f g):dj g f:=fun c hc hd=>h c hd hc
structure VO (H:AH) (b:Nat) (v:aS) (wE w2 wL w4:AV) (fE f2 fL f4:List Nat):Prop where
  hb:bA H b=some (0,[.int .i64 v.id,wE,w2,wL,w4])
  oE:bO H wE (.sl 12 (v.entities.map an.cd)) fE
  o2:bO H w2 (.sl 7 (v.loop.map aA.cd)) f2
  oL:bO H wL (.sl 7 (v.links.map aM.cd)) fL
  o4:bO H w4 (.sl 13 (v.out.map aj.cd)) f4
  nE:fE.Nodup
  n2:f2.Nodup
  nL:fL.Nodup
  n4:f4.Nodup
  dE2:dj fE f2
  dEL:dj fE fL
  dE4:dj fE f4
  d2L:dj f2 fL
  d24:dj f2 f4
  dL4:dj fL f4
  bE:b∉fE
  b2:b∉f2
  bL:b∉fL
  b4:b∉f4
def yR(fE f2 fL f4:List Nat):List Nat:=fE++(f2++(fL++f4))
theorem jF{fE f2 fL f4:List Nat}{c:Nat}:c∈yR fE f2 fL f4↔c∈fE∨c∈f2∨c∈fL∨c∈f4:=by simp[yR]
def yw(H:AH)(b:Nat)(v:aS)(f:List Nat):Prop:=∃wE w2 wL w4 fE f2 fL f4,f=yR fE f2 fL f4∧VO H b v wE w2 wL w4 fE f2 fL f4
section
variable {H:AH} {b:Nat} {v:aS} {wE w2 wL w4:AV} {fE f2 fL f4:List Nat}
theorem VO.nodup(o:VO H b v wE w2 wL w4 fE f2 fL f4):(yR fE f2 fL f4).Nodup:=by
  refine List.nodup_append.2 ⟨o.nE,List.nodup_append.2 ⟨o.n2,List.nodup_append.2 ⟨o.nL,o.n4,fun x hx y hy e=>o.dL4 x hx (e▸hy)⟩,fun x hx y hy e=>?_⟩,fun x hx y hy e=>?_⟩
  · subst e
    rcases List.mem_append.1 hy with g|g
    · exact o.d2L x hx g
    · exact o.d24 x hx g
  · subst e
    simp only[List.mem_append]at hy
    rcases hy with g|g|g
    · exact o.dE2 x hx g
    · exact o.dEL x hx g
    · exact o.dE4 x hx g
theorem VO.own(o:VO H b v wE w2 wL w4 fE f2 fL f4):aV H [.int .i64 v.id,wE,w2,wL,w4] v.cd (yR fE f2 fL f4):=VZ o.oE o.o2 o.oL o.o4
theorem VO.lt(o:VO H b v wE w2 wL w4 fE f2 fL f4):∀c∈yR fE f2 fL f4,c<H.length:=o.own.lt
theorem VO.blt(o:VO H b v wE w2 wL w4 fE f2 fL f4):b<H.length:=dd o.hb
theorem VO.bf(o:VO H b v wE w2 wL w4 fE f2 fL f4):b∉yR fE f2 fL f4:=fun h=>by
  rcases jF.1 h with g|g|g|g
  · exact o.bE g
  · exact o.b2 g
  · exact o.bL g
  · exact o.b4 g
theorem VO.mk'{f:List Nat}(hb:bA H b=some (0,[.int .i64 v.id,wE,w2,wL,w4]))(oE:bO H wE (.sl 12 (v.entities.map an.cd)) fE)(o2:bO H w2 (.sl 7 (v.loop.map aA.cd)) f2)(oL:bO H wL (.sl 7 (v.links.map aM.cd)) fL)(o4:bO H w4 (.sl 13 (v.out.map aj.cd)) f4)
    (nd:(fE++(f2++(fL++f4))).Nodup) (hf:b∉fE++(f2++(fL++f4))):VO H b v wE w2 wL w4 fE f2 fL f4:=by
  obtain⟨nE,n1,q1⟩:=List.nodup_append.1 nd
  obtain⟨n2,n3,q2⟩:=List.nodup_append.1 n1
  obtain⟨nL,n4,q3⟩:=List.nodup_append.1 n3
  simp only[List.mem_append,not_or]at hf
  exact⟨hb,oE,o2,oL,o4,nE,n2,nL,n4,fun c h g=>q1 c h c (by simp[g]) rfl,fun c h g=>q1 c h c (by simp[g]) rfl,fun c h g=>q1 c h c (by simp[g]) rfl,fun c h g=>q2 c h c (by simp[g]) rfl,fun c h g=>q2 c h c (by simp[g]) rfl,fun c h g=>q3 c h c g rfl,hf.1,hf.2.1,hf.2.2.1,hf.2.2.2⟩
theorem yw.of{cells:List AV}{f:List Nat}(hb:bA H b=some (0,cells))(o:aV H cells v.cd f)(nd:f.Nodup)(hf:b∉f):yw H b v f:=by
  obtain⟨wE,w2,wL,w4,fE,f2,fL,f4,rfl,rfl,oE,o2,oL,o4⟩:=CY o
  exact⟨wE,w2,wL,w4,fE,f2,fL,f4,rfl,VO.mk' (f:=[]) hb oE o2 oL o4 nd hf⟩
theorem yw.lt{f:List Nat}(a:yw H b v f):(∀c∈f,c<H.length)∧b<H.length∧b∉f∧f.Nodup:=by
  obtain⟨_,_,_,_,_,_,_,_,rfl,o⟩:=a
  exact⟨o.lt,o.blt,o.bf,o.nodup⟩
theorem yw.frame{f:List Nat}{H':AH}(a:yw H b v f)(h:∀c,c∈f∨c=b→H'[c]? = H[c]?):yw H' b v f:=by
  obtain⟨wE,w2,wL,w4,fE,f2,fL,f4,rfl,o⟩:=a
  refine⟨wE,w2,wL,w4,fE,f2,fL,f4,rfl,?_,o.oE.frame fun c hc=>h c (.inl (jF.2 (.inl hc))),o.o2.frame fun c hc=>h c (.inl (jF.2 (.inr (.inl hc)))),o.oL.frame fun c hc=>h c (.inl (jF.2 (.inr (.inr (.inl hc))))),o.o4.frame fun c hc=>h c (.inl (jF.2 (.inr (.inr (.inr hc))))),o.nE,o.n2,o.nL,o.n4,o.dE2,o.dEL,o.dE4,o.d2L,o.d24,o.dL4,o.bE,o.b2,o.bL,o.b4⟩
  rw[dJ (h b (.inr rfl))];exact o.hb
end
def y9(H:AH)(b:Nat)(F:Nat→Prop)(H':AH)(v':aS):Prop:=
  ∃f',yw H' b v' f'∧H.length≤H'.length∧(∀c∈f',F c∨H.length≤c)∧∀c,¬F c→c≠b→c<H.length→H'[c]? = H[c]?
theorem y9.refl{H:AH}{b:Nat}{v:aS}{f:List Nat}{F:Nat→Prop}(a:yw H b v f)(hF:∀c∈f,F c):y9 H b F H v:=⟨f,a,Nat.le_refl _,fun c hc=>.inl (hF c hc),fun _ _ _ _=>rfl⟩
theorem y9.trans{H H1 H2:AH}{b:Nat}{F:Nat→Prop}{f1:List Nat}{G:Nat→Prop}{v2:aS}(l1:H.length≤H1.length)(m1:∀c∈f1,F c∨H.length≤c)(r1:∀c,¬F c→c≠b→c<H.length→H1[c]? = H[c]?)
    (u:y9 H1 b G H2 v2) (hG:∀c,G c→c∈f1∨F c∨H.length≤c):y9 H b F H2 v2:=by
  obtain⟨f2,a2,l2,m2,r2⟩:=u
  have hG':∀c,G c→F c∨H.length≤c:=fun c hc=>by
    rcases hG c hc with g|g|g
    · exact m1 c g
    · exact .inl g
    · exact .inr g
  refine⟨f2,a2,by omega,fun c hc=>?_,fun c hF hb hl=>?_⟩
  · rcases m2 c hc with g|g
    · exact hG' c g
    · exact .inr (by omega)
  · rw[r2 c (fun g=>(hG' c g).elim hF (fun g=>by omega)) hb (by omega),r1 c hF hb hl]
theorem y9.mono{H H':AH}{b:Nat}{F G:Nat→Prop}{v:aS}(u:y9 H b F H' v)(h:∀c,F c→G c):y9 H b G H' v:=by
  obtain⟨f,a,l,m,r⟩:=u
  exact⟨f,a,l,fun c hc=>(m c hc).imp (h c) id,fun c hG=>r c (fun hF=>hG (h c hF))⟩
section
variable {H H':AH} {b:Nat} {v:aS} {wE w2 wL w4:AV} {fE f2 fL f4 G:List Nat}
theorem VO.VC(o:VO H b v wE w2 wL w4 fE f2 fL f4){wE':AV}{es':List an}{fE':List Nat}(hb:bA H' b=some (0,[.int .i64 v.id,wE',w2,wL,w4]))(oE:bO H' wE' (.sl 12 (es'.map an.cd)) fE')(nE:fE'.Nodup)
    (mE:∀c∈fE',c∈fE∨c∈G∨H.length≤c) (dG:∀c∈G,c∉yR fE f2 fL f4∧c≠b) (hl:H.length≤H'.length) (fr:∀c,c∉fE→c∉G→c≠b→c<H.length→H'[c]? = H[c]?):
    VO H' b { v with entities:=es' } wE' w2 wL w4 fE' f2 fL f4:=by
  have lt:=o.lt
  have bf:=o.bf
  have key:∀c,c∈f2∨c∈fL∨c∈f4→H'[c]? = H[c]?∧c∉fE':=fun c hc=>by
    have hm:c∈yR fE f2 fL f4:=jF.2 (.inr hc)
    have hE:c∉fE:=fun g=>by
      rcases hc with q|q|q
      · exact o.dE2 c g q
      · exact o.dEL c g q
      · exact o.dE4 c g q
    have hG:c∉G:=fun g=>(dG c g).1 hm
    refine⟨fr c hE hG (fun e=>bf (e▸hm)) (lt c hm),fun h=>?_⟩
    rcases mE c h with g|g|g
    · exact hE g
    · exact hG g
    · have:=lt c hm;omega
  refine⟨hb,oE,o.o2.frame fun c hc=>(key c (.inl hc)).1,o.oL.frame fun c hc=>(key c (.inr (.inl hc))).1,o.o4.frame fun c hc=>(key c (.inr (.inr hc))).1,nE,o.n2,o.nL,o.n4,fun c h g=>(key c (.inl g)).2 h,fun c h g=>(key c (.inr (.inl g))).2 h,fun c h g=>(key c (.inr (.inr g))).2 h,o.d2L,o.d24,o.dL4,fun h=>?_,o.b2,o.bL,o.b4⟩
  rcases mE b h with g|g|g
  · exact o.bE g
  · exact(dG b g).2 rfl
  · have:=o.blt;omega
theorem VO.up{v':aS}{wE' w2' wL' w4':AV}{fE' f2' fL' f4':List Nat}(o':VO H' b v' wE' w2' wL' w4' fE' f2' fL' f4')(hl:H.length≤H'.length){F:Nat→Prop}(m:∀c∈yR fE' f2' fL' f4',F c∨H.length≤c)(r:∀c,¬F c→c≠b→c<H.length→H'[c]? = H[c]?):y9 H b F H' v':=
  ⟨_,⟨_,_,_,_,_,_,_,_,rfl,o'⟩,hl,m,r⟩
theorem VO.at(o:VO H b v wE w2 wL w4 fE f2 fL f4):yw H b v (yR fE f2 fL f4):=⟨_,_,_,_,_,_,_,_,rfl,o⟩
theorem KR{cells:List AV}(hb:bA H b=some (0,cells)){i:Nat}{w:AV}(hi:i+1≤cells.length)(hw:bk w=true):∃H',(∀(e:List AV) (L:List (List AV)),(St.mk e L H).store (.gp b 0 i) [w]=some ⟨e,L,H'⟩)∧bA H' b=some (0,over cells i [w])∧H'.length=H.length∧∀c,c≠b→H'[c]? = H[c]?:=by
  obtain⟨H',s,m,l,r⟩:=(mH.nil hb).store (i:=i) (vs:=[w]) (by simpa using hi) (by simp only[u9,uJ,hw,Bool.and_self])
  refine⟨H',fun e L=>by simpa using s e L,by simpa using m.eq,l,r⟩
end
end Go.AM
namespace Go.AM
theorem bO.Ce{H:AH}{w:AV}{sz:Nat}{xs:List (List CD)}{fp:List Nat}(o:bO H w (.sl sz xs) fp)(nd:fp.Nodup){k:Nat}(hk:k<xs.length):
    ∃b g pre row post f,cm sz w (k:Int)=some (.gp b g pre.length)∧mH H b g pre row post∧row.length=sz∧aV H row xs[k] f∧f.Nodup∧(∀c∈f,c∈fp)∧b∈fp∧b∉f∧
      ∀(H':AH) (row':List AV) (d':List CD) (f':List Nat),aV H' row' d' f'→f'.Nodup→d'.length=sz→(∀c∈f',c∈f∨c∉fp)→mH H' b g pre row' post→(∀c∈fp,c∉f→c≠b→H'[c]? = H[c]?)→
        ∃fp',bO H' w (.sl sz (xs.set k d')) fp'∧fp'.Nodup∧(∀c∈fp',(c∈fp∧c∉f)∨c∈f'):=by
  rcases o.fj with⟨rfl,e,rfl⟩|⟨b,g,cap,ex,az,tail,fp',rfl,rfl,hg,hsz,ht,hc,hown⟩
  · subst e;simp at hk
  obtain⟨nb,nd'⟩:=List.nodup_cons.1 nd
  have hfl:∀d:List CD,(xs.set k d).flatten=(xs.take k).flatten++(d++(xs.drop (k+1)).flatten):=fun d=>by
    rw[←List.flatten_cons,←List.flatten_append,List.set_eq_take_append_cons_drop,if_pos hk]
  have hf0:=hfl xs[k]
  rw[List.set_getElem_self]at hf0
  rw[hf0]at hown
  obtain⟨a1,a2,f1,f2,e1,e2,o1,o2⟩:=hown.split
  obtain⟨a3,a4,f3,f4,e3,e4,o3,o4⟩:=o2.split
  subst e1 e2 e3 e4
  have l1:a1.length=k*sz:=by
    rw[o1.len]
    have:∀(ys:List (List CD)),(∀l∈ys,l.length=sz)→ys.flatten.length=ys.length*sz:=fun ys=>by
      induction ys with
      | nil=>intro _;simp
      | cons y ys ih=>intro h;rw[List.flatten_cons,List.length_append,ih (fun l hl=>h l (by simp[hl])),h y (by simp),List.length_cons,Nat.add_mul];omega
    rw[this _ (fun l hl=>hsz l (List.mem_of_mem_take hl)),List.length_take,Nat.min_eq_left (by omega)]
  have l3:a3.length=sz:=by rw[o3.len];exact hsz _ (List.getElem_mem hk)
  obtain⟨n1,n2,n3⟩:=List.nodup_append.1 nd'
  obtain⟨n4,n5,n6⟩:=List.nodup_append.1 n2
  refine⟨b,g,a1,a3,a4++tail,f3,by have:=fo (b:=b) (g:=g) (off:=0) (len:=xs.length) (cap:=cap) (sz:=sz) (ex:=ex) hk;rwa[Nat.zero_add,←l1]at this,⟨by rw[hg];simp⟩,l3,o3,n4,fun c hc=>by simp[hc],by simp,fun hb=>nb (by simp[hb]),?_⟩
  intro H' row' d' f' o' nd2 hdl hf' hm fr
  have hbf':b∉f':=fun hb=>by
    rcases hf' b hb with q|q
    · exact nb (by simp[q])
    · exact q (by simp)
  have d1:∀c∈f',c∉f1:=fun c hc h1=>by
    rcases hf' c hc with q|q
    · exact n3 c h1 c (List.mem_append_left _ q) rfl
    · exact q (by simp[h1])
  have d4:∀c∈f',c∉f4:=fun c hc h1=>by
    rcases hf' c hc with q|q
    · exact n6 c q c h1 rfl
    · exact q (by simp[h1])
  have o1':=o1.frame (h':=H') fun c hc=>fr c (by simp[hc]) (fun h3=>n3 c hc c (List.mem_append_left _ h3) rfl) (fun e=>nb (by rw[←e];simp[hc]))
  have o4':=o4.frame (h':=H') fun c hc=>fr c (by simp[hc]) (fun h3=>n6 c h3 c hc rfl) (fun e=>nb (by rw[←e];simp[hc]))
  refine⟨b::(f1++(f'++f4)),?_,List.nodup_cons.2 ⟨?_,List.nodup_append.2 ⟨n1,List.nodup_append.2 ⟨nd2,n5,fun x hx y hy e=>d4 x hx (e▸hy)⟩,fun x hx y hy e=>?_⟩⟩,fun c hc=>?_⟩
  · have:=bO.sl_mk (h:=H') (b:=b) (g:=g) (cap:=cap) (sz:=sz) (ex:=ex) (zas:=a1++(row'++a4)) (tail:=tail) (xs:=xs.set k d') (fp:=f1++(f'++f4))
      (by rw[hm.eq];simp) (fun y hy=>by
        rcases List.mem_or_eq_of_mem_set hy with g|g
        · exact hsz y g
        · rw[g,hdl]) ht (by simpa using hc) (by rw[hfl];exact o1'.append (o'.append o4'))
    simpa using this
  · simp only[List.mem_append,not_or]
    exact⟨fun h=>nb (by simp[h]),hbf',fun h=>nb (by simp[h])⟩
  · subst e
    rcases List.mem_append.1 hy with q|q
    · exact d1 x q hx
    · exact n3 x hx x (List.mem_append_right _ q) rfl
  · simp only[List.mem_cons,List.mem_append]at hc ⊢
    rcases hc with q|q|q|q
    · exact .inl ⟨.inl q,fun h=>nb (by rw[←q];simp[h])⟩
    · exact .inl ⟨.inr (.inl q),fun h=>n3 c q c (List.mem_append_left _ h) rfl⟩
    · exact .inr q
    · exact .inl ⟨.inr (.inr (.inr q)),fun h=>n6 c h c q rfl⟩
theorem VO.frame{H H':AH}{b:Nat}{v:aS}{wE w2 wL w4:AV}{fE f2 fL f4:List Nat}(o:VO H b v wE w2 wL w4 fE f2 fL f4)(h:∀c,c∈yR fE f2 fL f4∨c=b→H'[c]? = H[c]?):VO H' b v wE w2 wL w4 fE f2 fL f4:=by
  refine⟨?_,o.oE.frame fun c hc=>h c (.inl (jF.2 (.inl hc))),o.o2.frame fun c hc=>h c (.inl (jF.2 (.inr (.inl hc)))),o.oL.frame fun c hc=>h c (.inl (jF.2 (.inr (.inr (.inl hc))))),o.o4.frame fun c hc=>h c (.inl (jF.2 (.inr (.inr (.inr hc))))),o.nE,o.n2,o.nL,o.n4,o.dE2,o.dEL,o.dE4,o.d2L,o.d24,o.dL4,o.bE,o.b2,o.bL,o.b4⟩
  rw[dJ (h b (.inr rfl))];exact o.hb
theorem aV.rows{H:AH}{sz:Nat}:∀{xs:List (List CD)} {az:List AV} {fp:List Nat},aV H az xs.flatten fp→(∀l∈xs,l.length=sz)→fp.Nodup→
    ∃fpr:Nat→List Nat,∀(j:Nat) (hj:j<xs.length),aV H ((az.drop (j*sz)).take sz) xs[j] (fpr j)∧(fpr j).Nodup∧(∀c∈fpr j,c∈fp)∧∀j',j'<xs.length→j'≠j→∀c∈fpr j,c∉fpr j'
  | [],_,_,_,_,_=>⟨fun _=>[],fun j hj=>by simp at hj⟩
  | x::xs,az,fp,o,hs,nd=>by
    rw[List.flatten_cons]at o
    obtain⟨a1,a2,f1,f2,rfl,rfl,o1,o2⟩:=o.split
    obtain⟨n1,n2,n3⟩:=List.nodup_append.1 nd
    obtain⟨g,hg⟩:=aV.rows o2 (fun l hl=>hs l (by simp[hl])) n2
    have la:a1.length=sz:=by rw[o1.len];exact hs x (by simp)
    refine⟨fun j=>match j with|0=>f1|j+1=>g j,fun j hj=>?_⟩
    cases j with
    | zero=>
      refine⟨by simpa[←la]using o1,n1,fun c hc=>by simp[show c∈f1 from hc],fun j' h1 h2 c hc=>?_⟩
      cases j' with
      | zero=>omega
      | succ j'=>exact fun h=>n3 c hc c ((hg j' (by simpa using h1)).2.2.1 c h) rfl
    | succ j=>
      obtain⟨k1,k2,k3,k4⟩:=hg j (by simpa using hj)
      refine⟨?_,k2,fun c hc=>by simp[k3 c hc],fun j' h1 h2 c hc=>?_⟩
      · have e:(j+1)*sz=a1.length+j*sz:=by rw[la,Nat.add_mul];omega
        rw[e,List.drop_append,List.drop_of_length_le (by omega),List.nil_append,Nat.add_sub_cancel_left]
        simpa using k1
      · cases j' with
        | zero=>exact fun h=>n3 c h c (k3 c hc) rfl
        | succ j'=>exact k4 j' (by simpa using h1) (by omega) c hc
theorem bO.rows{H:AH}{w:AV}{sz:Nat}{xs:List (List CD)}{fp:List Nat}(o:bO H w (.sl sz xs) fp)(nd:fp.Nodup):
    ∃(ptr:Nat→AV) (row:Nat→List AV) (fpr:Nat→List Nat) (qb:Nat),∀(j:Nat) (hj:j<xs.length),cm sz w (j:Int)=some (ptr j)∧(∀(H':AH) (e:List AV) (L:List (List AV)),H'[qb]? = H[qb]?→(St.mk e L H').cells (ptr j) sz=some (row j))∧
      aV H (row j) xs[j] (fpr j)∧(fpr j).Nodup∧(∀c∈fpr j,c∈fp∧c≠qb)∧qb∈fp∧∀j',j'<xs.length→j'≠j→∀c∈fpr j,c∉fpr j':=by
  rcases o.fj with⟨rfl,e,rfl⟩|⟨b,g,cap,ex,az,tail,fp',rfl,rfl,hg,hsz,ht,hc,hown⟩
  · subst e
    exact⟨fun _=>.any,fun _=>[],fun _=>[],0,fun j hj=>by simp at hj⟩
  obtain⟨nb,nd'⟩:=List.nodup_cons.1 nd
  obtain⟨fpr,hf⟩:=hown.rows hsz nd'
  have lz:az.length=xs.length*sz:=by
    rw[hown.len]
    have:∀(ys:List (List CD)),(∀l∈ys,l.length=sz)→ys.flatten.length=ys.length*sz:=fun ys=>by
      induction ys with
      | nil=>intro _;simp
      | cons y ys ih=>intro h;rw[List.flatten_cons,List.length_append,ih (fun l hl=>h l (by simp[hl])),h y (by simp),List.length_cons,Nat.add_mul];omega
    exact this _ hsz
  refine⟨fun j=>.gp b g (j*sz),fun j=>(az.drop (j*sz)).take sz,fpr,b,fun j hj=>?_⟩
  obtain⟨k1,k2,k3,k4⟩:=hf j hj
  refine⟨by have:=fo (b:=b) (g:=g) (off:=0) (len:=xs.length) (cap:=cap) (sz:=sz) (ex:=ex) hj;rwa[Nat.zero_add]at this,fun H' e L hb=>?_,k1,k2,fun c hc=>⟨by simp[k3 c hc],fun e=>nb (e▸k3 c hc)⟩,by simp,k4⟩
  have hg':bA H' b=some (g,az++tail):=by rw[dJ hb];exact hg
  have hle:j*sz+sz≤az.length:=by rw[lz];calc j*sz+sz=(j+1)*sz:=by rw[Nat.add_mul];omega
    _≤xs.length*sz:=Nat.mul_le_mul_right _ hj
  rw[ee hg',sub,if_pos (by rw[List.length_append];omega),List.drop_append_of_le_length (by omega),List.take_append_of_le_length (by rw[List.length_drop];omega)]
end Go.AM
namespace Go.AM
theorem mH.put{H:AH}{b g:Nat}{pre row post:List AV}(m:mH H b g pre row post)(i:Nat)(vs:List AV)(hi:i+vs.length≤row.length)(hv:vs.all bk=true):
    ∃H',(∀(e:List AV) (L:List (List AV)),(St.mk e L H).store (.gp b g (pre.length+i)) vs=some ⟨e,L,H'⟩)∧mH H' b g pre (over row i vs) post∧H'.length=H.length∧∀c,c≠b→H'[c]? = H[c]?:=m.store hi hv
end Go.AM
namespace Go.AM
theorem bO.kh{H:AH}{w:AV}{xs:List (List CD)}{fp:List Nat}(o:bO H w (.sl 2 xs) fp)(nd:fp.Nodup){k:Nat}(hk:k<xs.length){nm:ByteArray}{sz:Nat}{ys:List (List CD)}(hx:xs[k]=[.s nm,.sl sz ys]):
    ∃b g p wm f,cm 2 w (k:Int)=some (.gp b g p)∧(∀(e:List AV) (L:List (List AV)),(St.mk e L H).cells (.gp b g p) 2=some [.str nm,wm])∧(∀(e:List AV) (L:List (List AV)),(St.mk e L H).cells (.gp b g p) 1=some [.str nm])∧(∀(H':AH),H'[b]? = H[b]?→∀(e:List AV) (L:List (List AV)),(St.mk e L H').cells (.gp b g (p+1)) 1=some [wm])∧
      bO H wm (.sl sz ys) f∧f.Nodup∧(∀c∈f,c∈fp)∧b∈fp∧b∉f∧
      (∀(H':AH) (ys':List (List CD)) (f':List Nat),H.length≤H'.length→bO H' wm (.sl sz ys') f'→f'.Nodup→(∀c∈f',c∈f∨H.length≤c)→(∀c,c<H.length→c∉f→H'[c]? = H[c]?)→
        ∃fp',bO H' w (.sl 2 (xs.set k [.s nm,.sl sz ys'])) fp'∧fp'.Nodup∧∀c∈fp',c∈fp∨H.length≤c)∧
      ∀(H':AH) (wm':AV) (ys':List (List CD)) (f':List Nat),H.length≤H'.length→bO H' wm' (.sl sz ys') f'→f'.Nodup→(∀c∈f',c∈f∨H.length≤c)→(∀c,c<H.length→c∉f→H'[c]? = H[c]?)→
        ∃H'' fp',(∀(e:List AV) (L:List (List AV)),(St.mk e L H').store (.gp b g (p+1)) [wm']=some ⟨e,L,H''⟩)∧H''.length=H'.length∧(∀c,c≠b→H''[c]? = H'[c]?)∧bO H'' w (.sl 2 (xs.set k [.s nm,.sl sz ys'])) fp'∧fp'.Nodup∧∀c∈fp',c∈fp∨H.length≤c:=by
  obtain⟨b,g,pre,row,post,f,iR,mR,lR,oR,nR,sR,bm,bn,close⟩:=o.Ce nd hk
  rw[hx]at oR
  simp only[cT,cO,dM]at oR
  obtain⟨_,_,_,_,rfl,rfl,⟨rfl,rfl⟩,⟨wm,_,fm,_,rfl,rfl,om,⟨rfl,rfl⟩⟩⟩:=oR
  simp only[List.nil_append,List.append_nil]at nR sR bn close
  have hlt:∀c∈fp,c<H.length:=o.lt
  have own2:∀{H':AH} {wm':AV} {ys':List (List CD)} {f':List Nat},bO H' wm' (.sl sz ys') f'→aV H' [.str nm,wm'] [.s nm,.sl sz ys'] f':=fun{H'} {wm'} {ys'} {f'} o'=>by
    have e:f'=f'++[]:=by simp
    rw[e]
    exact .s (.o o' .nil)
  refine⟨b,g,pre.length,wm,fm,iR,fun e L=>by rw[mR.xt e L 2 (by simp)];rfl,fun e L=>by rw[mR.xt e L 1 (by simp)];rfl,fun H' h e L=>by rw[(mR.frame h).cells e L 1 1 (by simp)];rfl,om,nR,sR,bm,bn,fun H' ys' f' hl o' n' b' fr=>?_,fun H' wm' ys' f' hl o' n' b' fr=>?_⟩
  · have m':mH H' b g pre _ post:=mR.frame (fr b (hlt b bm) bn)
    obtain⟨fp',oF,nF,mF⟩:=close H' _ [.s nm,.sl sz ys'] f' (own2 o') n' rfl (fun c hc=>(b' c hc).imp id fun h hm=>by have:=hlt c hm;omega) m' (fun c hc hcf _=>fr c (hlt c hc) hcf)
    exact⟨fp',oF,nF,fun c hc=>by
      rcases mF c hc with q|q
      · exact .inl q.1
      · exact(b' c q).imp (sR c) id⟩
  · have m':mH H' b g pre _ post:=mR.frame (fr b (hlt b bm) bn)
    obtain⟨c1,c2,c3,c4⟩:=o'.cell
    obtain⟨H'',s,m2,l,r⟩:=m'.put 1 [wm'] (by simp) (by simp[c3])
    have nb:∀c∈f',c≠b:=fun c hc e=>by
      rcases b' c hc with q|q
      · exact bn (e▸q)
      · have:=hlt b bm;omega
    obtain⟨fp',oF,nF,mF⟩:=close H'' [.str nm,wm'] [.s nm,.sl sz ys'] f' (own2 (o'.frame fun c hc=>r c (nb c hc))) n' rfl (fun c hc=>(b' c hc).imp id fun h hm=>by have:=hlt c hm;omega) m2 (fun c hc hcf hcb=>by rw[r c hcb];exact fr c (hlt c hc) hcf)
    exact⟨H'',fp',s,l,r,oF,nF,fun c hc=>by
      rcases mF c hc with q|q
      · exact .inl q.1
      · exact(b' c q).imp (sR c) id⟩
end Go.AM
namespace Go.AM
def bM(s:Tx):bJ:=J2 (aU 32 s)
def jQ(n:Int):Bool:=decide (0≤n) && decide (n≤9)
def wh(w:Tx):Bool:=match w with|[]=>false|c::r=>(decide (r=[]) && decide (48≤c.toNat) && decide (c.toNat≤57)) || decide (97≤c.toNat)
theorem B1:bZ.all (fun s=>decide (s.length≤40) && (my (bM s) && (fM (bM s).D && (decide (jq (bM s)=s) && (jQ (bM s).a && (jQ (bM s).b && ((decide ((bM s).c = -1) || jQ (bM s).c) && ((decide ((bM s).d = -1) || jQ (bM s).d) && (decide (1≤(bM s).op) && (decide ((bM s).op≤10) && (decide ((bM s).name.length≤6) && (aU 32 s).all wh)))))))))))=true:=by decide +kernel
theorem Er{w:Tx}{k:Nat}(h0:1≤k)(h1:k≤10)(hb:∀j,1≤j→j<k→iT j≠w)(hk:iT k=w):kt w=k:=by
  have e:(List.range 10).map (· + 1)=(List.range (k-1)).map (· + 1)++((List.range (10-k+1)).map (· + k)):=by
    have:∀k,k<11→1≤k→(List.range 10).map (· + 1)=(List.range (k-1)).map (· + 1)++((List.range (10-k+1)).map (· + k)):=by decide +kernel
    exact this k (by omega) h0
  have n:((List.range (k-1)).map (· + 1)).find? (fun j=>decide (iT j=w))=none:=by
    rw[List.find?_eq_none]
    intro j hj
    obtain⟨i,hi,rfl⟩:=List.mem_map.1 hj
    have:=List.mem_range.1 hi
    simpa using hb (i+1) (by omega) (by omega)
  unfold kt
  rw[e,List.find?_append,n,List.range_succ_eq_map]
  simp[hk]
theorem zY{w:Tx}(hb:∀j,1≤j→j<11→iT j≠w):kt w=0:=by
  unfold kt
  have n:((List.range 10).map (· + 1)).find? (fun j=>decide (iT j=w))=none:=by
    rw[List.find?_eq_none]
    intro j hj
    obtain⟨i,hi,rfl⟩:=List.mem_map.1 hj
    have:=List.mem_range.1 hi
    simpa using hb (i+1) (by omega) (by omega)
  rw[n];rfl
theorem vy{a b:Tx}(h:tb a=tb b):a=b:=by
  have:=congrArg (fun x:ByteArray=>x.data.toList) h
  simpa[tb]using this
theorem wz{a b:Tx}:decide (tb a=tb b)=decide (a=b):=by
  by_cases h:a=b
  · subst h;simp
  · rw[decide_eq_false h,decide_eq_false fun e=>h (vy e)]
theorem db(a b:Tx):tb a++tb b=tb (a++b):=by
  apply ByteArray.ext
  simp[tb,ByteArray.data_append]
theorem uE(l:List Tx):(CD.sl 1 ((l.map tb).map fun n=>[CD.s n])).av false=.vs false 1 false (l.map fun w=>[.str (tb w)]):=by
  simp[CD.av,CD.vq,Function.comp_def]
theorem Cy{ws:List Tx}{i:Nat}(h:ws.length≤i):dA ws i = -1:=by unfold dA;rw[List.getElem?_eq_none h]
end Go.AM
namespace Go.AM
def A6(x:bJ):List CD:=[.i .i64 x.op,.i .i64 x.a,.i .i64 x.b,.i .i64 x.c,.i .i64 x.d,.s (tb x.name)]
def zi(m:cD):List CD:=[.s (tb m.name),.sl 6 (m.code.map A6)]
def Av(s:bj):List CD:=[.s (tb s.name),.sl 2 (s.methods.map zi)]
theorem Kp(x:bJ):A6 x=x.D.cd:=rfl
theorem Kn(m:cD):zi m=m.D.cd:=by simp[zi,cD.D,aJ.cd,Function.comp_def,Kp]
theorem Kj(s:bj):Av s=s.D.cd:=by simp[Av,bj.D,aB.cd,Function.comp_def,Kn]
theorem Dg(l:List bj):l.map Av=(l.map bj.D).map aB.cd:=by simp[Function.comp_def,Kj]
def Cg(H:AH)(v:AV)(l:List bj)(fp:List Nat):Prop:=bO H v (.sl 2 (l.map Av)) fp∧fp.Nodup
def qc(H:AH)(fp:List Nat)(H':AH)(v':AV)(l':List bj):Prop:=∃fp',Cg H' v' l' fp'∧H.length≤H'.length∧(∀c,c<H.length→c∉fp→H'[c]? = H[c]?)∧∀c∈fp',c∈fp∨H.length≤c
theorem qc.trans{H:AH}{fp:List Nat}{H1:AH}{v1:AV}{l1:List bj}{fp1:List Nat}{H2:AH}{v2:AV}{l2:List bj}(h1:H.length≤H1.length)(f1:∀c,c<H.length→c∉fp→H1[c]? = H[c]?)(m1:∀c∈fp1,c∈fp∨H.length≤c)
    (u:qc H1 fp1 H2 v2 l2):qc H fp H2 v2 l2:=by
  obtain⟨fp2,a,h2,f2,m2⟩:=u
  refine⟨fp2,a,by omega,fun c hc hf=>?_,fun c hc=>?_⟩
  · rw[f2 c (by omega) (fun g=>by rcases m1 c g with q|q;exact hf q;omega),f1 c hc hf]
  · rcases m2 c hc with q|q
    · exact m1 c q
    · exact .inr (by omega)
theorem qC(s:St)(l:Tx)(h:7≤l.length):kE .str s (.str (tb l)) (.int .i64 7)=.val (.str (tb (l.take 7))) s∧cutFrom .str s (.str (tb l)) (.int .i64 7)=.val (.str (tb (l.drop 7))) s:=by
  have sz:(tb l).size=l.length:=by show l.toArray.size=_;simp
  have e1:(tb l).extract 0 7=tb (l.take 7):=by
    apply ByteArray.ext;simp[tb,ByteArray.data_extract,List.extract_eq_take_drop]
  have e2:(tb l).extract 7 (tb l).size=tb (l.drop 7):=by
    rw[sz];apply ByteArray.ext;simp[tb,ByteArray.data_extract,List.extract_eq_take_drop];rw[List.take_of_length_le (by simp)]
  have h7:7≤(tb l).size:=by omega
  constructor
  · simp[kE,jd,xA,eL,AR.eI,h7,e1]
  · simp[cutFrom,jd,xA,eL,AR.eI,h7,e2]
end Go.AM
namespace Go.AM
section
variable {P:Program} {Θ:jL} {Γ:bG}
theorem zF{rs:List Nat}{e e':List AV}{L:List (List AV)}{h h':AH}(hx:∀r∈rs,(∃i off,e.getD r .any=.lp i off)∨(∃c g off,e.getD r .any=.gp c g off∧h'[c]? = h[c]?)):ju rs ⟨e,L,h⟩ ⟨e',L,h'⟩:=by
  intro r hr n cs hc
  rcases hx r hr with⟨i,off,he⟩|⟨c,g,off,he,hh⟩
  · simp only[he]at hc ⊢
    simpa only[St.cells]using hc
  · simp only[he]at hc ⊢
    simp only[St.cells]at hc ⊢
    rw[show bA h' c=bA h c by unfold bA;rw[hh]];exact hc
end
end Go.AM
namespace Go.AM
def cS(i:Nat):Tx:=(po dH).getD i []
def eC(l:List bj):bj:=l.getD (l.length-1) ⟨[],[]⟩
def pQ(s:bj):cD:=s.methods.getD (s.methods.length-1) ⟨[],[]⟩
def yW(l:List bj)(line:Tx):List bj:=
  if line.take 7=bu then l++[⟨line.drop 7,[]⟩]
  else if line.take 7=bz then l.set (l.length-1) ⟨(eC l).name,(eC l).methods++[⟨line.drop 7,[]⟩]⟩
  else l.set (l.length-1) ⟨(eC l).name,(eC l).methods.set ((eC l).methods.length-1) ⟨(pQ (eC l)).name,(pQ (eC l)).code++[bM line]⟩⟩
def eA(i:Nat):List bj:=((po dH).take i).foldl yW []
def cG:Nat:=(po dH).length
theorem tT{i:Nat}(hi:i<cG):eA (i+1)=yW (eA i) (cS i):=by
  unfold eA cS
  rw[List.take_succ_eq_append_getElem hi,List.foldl_append,List.getD_eq_getElem?_getD,List.getElem?_eq_getElem hi];rfl
def Vl(i:Nat):Bool:=
  decide ((eA i).length≤10) && (decide ((cS i).length≤40) &&
  (if (cS i).take 7=bu then decide (7<(cS i).length)
   else decide (1≤(eA i).length) && (decide ((eC (eA i)).methods.length≤10) &&
    (if (cS i).take 7=bz then decide (7<(cS i).length)
     else decide (cS i∈bZ) && (decide (1≤(eC (eA i)).methods.length) && decide ((pQ (eC (eA i))).code.length≤20))))))
theorem DX:(List.range cG).all Vl=true:=by decide +kernel
theorem vV:eA cG=gO:=by decide +kernel
theorem rz:cG≤100:=by decide +kernel
theorem iV:(aU 10 dH).length=cG+1:=by decide +kernel
theorem xk:∀i,i<cG→(aU 10 dH)[i]? = some (cS i):=by decide +kernel
theorem yP:dH.length≤4000:=by decide +kernel
theorem gV:gO.all (fun s=>decide (s.name.length≤6) && (decide (s.methods.length≤4) && s.methods.all fun m=>decide (m.name.length≤6) && (decide (m.code.length≤12) && m.code.all fun x=>bZ.any fun c=>decide (x=bM c))))=true:=by decide +kernel
end Go.AM
namespace Go.AM
open Go.Proofs
def vd(w:Tx):Bool:=match Lib.atoiAll w,mg w with
  | .ok n,some m=>decide (n=(m:Int))
  | .ok _,none=>false
  | _,some _=>false
  | _,none=>true
theorem Ah:bZ.all (fun s=>(aU 32 s).all vd)=true:=by decide +kernel
def dx(op:Int):List Nat:=if op=7 then [1,3,4]else if op=6 then [1,2,3,4]else [1,2,3]
def bJ.set(x:bJ)(j:Nat)(n:Int):bJ:=
  if j=1 then { x with a:=n }else if j=2 then { x with b:=n }else if j=3 then { x with c:=n }else { x with d:=n }
def yH(fl:List Nat)(st:bJ×Nat)(w:Tx):bJ×Nat:=
  match mg w with
  | none=>({ st.1 with name:=w },st.2)
  | some n=>(st.1.set (fl.getD st.2 0) n,st.2+1)
def okW(fl:List Nat)(st:bJ×Nat)(w:Tx):Bool:=
  match mg w with
  | none=>decide (st.1.name=[])
  | some _=>decide (st.2<fl.length)
def iq(s:Tx):Int:=kt ((aU 32 s).headD [])
def iJ(s:Tx):bJ:=if iq s=6∨iq s=7 then ⟨iq s,0,0,-1,-1,[]⟩else ⟨iq s,0,0,0,0,[]⟩
def mJ(s:Tx)(i:Nat):bJ×Nat:=(((aU 32 s).tail).take i).foldl (yH (dx (iq s))) (iJ s,0)
theorem Cm{s:Tx}{i:Nat}(hi:i<((aU 32 s).tail).length):mJ s (i+1)=yH (dx (iq s)) (mJ s i) ((aU 32 s).tail)[i]:=by
  unfold mJ
  rw[List.take_succ_eq_append_getElem hi,List.foldl_append];rfl
theorem DC:bZ.all (fun s=>decide ((mJ s ((aU 32 s).tail).length).1=bM s) && (decide ((aU 32 s).length≤10) && (decide (((aU 32 s).headD [])≠[]) && (decide (kt ((aU 32 s).headD [])≤10) && ((List.range ((aU 32 s).tail).length).all fun i=>okW (dx (iq s)) (mJ s i) (((aU 32 s).tail).getD i []) && decide ((mJ s i).2≤i))))))=true:=by decide +kernel
end Go.AM
namespace Go.AM
open Go.Proofs
def Ap(l:List Int):List Int:=l.filter fun n=>!decide (n = -1)
def uf(x:bJ):List Tx:=
  iT x.op.toNat ::
  (if x.op=4∨x.op=10 then [iO x.a]
   else if x.op=5 then [iO x.a,iO x.b,iO x.c]
   else if x.op=6 then [iO x.a,iO x.b]++[x.name]++(Ap [x.c,x.d]).map iO
   else if x.op=7 then [iO x.a]++[x.name]++(Ap [x.c,x.d]).map iO
   else [iO x.a,iO x.b])
theorem yr:bZ.all (fun s=>decide (Lib.join (uf (bM s)) [32]=s) && (decide ((bM s).c = -1→(bM s).d = -1) && decide ((bM s).op=5→(bM s).c≠-1)))=true:=by decide +kernel
theorem DM:bZ.all (fun s=>decide (iT (kt ((aU 32 s).headD []))=(aU 32 s).headD []) && ((List.range (kt ((aU 32 s).headD []))).all (fun j=>decide (iT j≠(aU 32 s).headD [])) && (decide (s≠[]) && (decide (1≤kt ((aU 32 s).headD [])) && decide (((aU 32 s).headD []).length≤10)))))=true:=by decide +kernel
theorem DZ{op:Int}{k:Nat}(h:k<(dx op).length):1≤(dx op).getD k 0∧(dx op).getD k 0≤4:=by
  unfold dx at *
  split at h
  · rename_i e
    rw[if_pos e]
    have:k=0∨k=1∨k=2:=by simp at h;omega
    rcases this with rfl|rfl|rfl<;>simp
  · rename_i e
    rw[if_neg e]
    split at h
    · rename_i e
      rw[if_pos e]
      have:k=0∨k=1∨k=2∨k=3:=by simp at h;omega
      rcases this with rfl|rfl|rfl|rfl<;>simp
    · rename_i e
      rw[if_neg e]
      have:k=0∨k=1∨k=2:=by simp at h;omega
      rcases this with rfl|rfl|rfl<;>simp
end Go.AM
namespace Go.AM
open Go.Proofs
def Wr(i:Nat):Bool:=
  decide (cS i≠[]) &&
  (if (cS i).take 7=bu then Lib.hasPrefix (cS i) bu && decide (Lib.trimPrefix (cS i) bu=(cS i).drop 7)
   else (!Lib.hasPrefix (cS i) bu) && (if (cS i).take 7=bz then Lib.hasPrefix (cS i) bz && decide (Lib.trimPrefix (cS i) bz=(cS i).drop 7)else !Lib.hasPrefix (cS i) bz))
theorem DT:(List.range cG).all Wr=true:=by decide +kernel
theorem AA:(aU 10 dH)[cG]? = some []:=by decide +kernel
theorem pre_nil:Lib.hasPrefix [] bu=false:=by decide +kernel
end Go.AM
namespace Go.AM
theorem Yg(env:List AV)(L zs:List (List AV))(a0 a1 a2 a3 z:List AV)(h:AH)(off n0:Nat):(St.mk env (L++a0::a1::a2::a3::z::zs) h).cells (.lp (L.length+4) off) n0=sub z off n0:=bT (i:=4) rfl
theorem Yo(env:List AV)(L zs:List (List AV))(a0 a1 a2 a3 z:List AV)(h:AH)(off:Nat)(vs:List AV):(St.mk env (L++a0::a1::a2::a3::z::zs) h).store (.lp (L.length+4) off) vs=gw (fun z'=>⟨env,L++a0::a1::a2::a3::z'::zs,h⟩) (dY ⟨env,L++a0::a1::a2::a3::z::zs,h⟩ (.lp (L.length+4) off) vs) (jz z off vs):=
  cC fun _ hs=>bS (i:=4) rfl hs
theorem Ye(env:List AV)(L zs:List (List AV))(a0 a1 a2 a3 a4 z:List AV)(h:AH)(off n0:Nat):(St.mk env (L++a0::a1::a2::a3::a4::z::zs) h).cells (.lp (L.length+5) off) n0=sub z off n0:=bT (i:=5) rfl
theorem YH(env:List AV)(L zs:List (List AV))(a0 a1 a2 a3 a4 z:List AV)(h:AH)(off:Nat)(vs:List AV):(St.mk env (L++a0::a1::a2::a3::a4::z::zs) h).store (.lp (L.length+5) off) vs=gw (fun z'=>⟨env,L++a0::a1::a2::a3::a4::z'::zs,h⟩) (dY ⟨env,L++a0::a1::a2::a3::a4::z::zs,h⟩ (.lp (L.length+5) off) vs) (jz z off vs):=
  cC fun _ hs=>bS (i:=5) rfl hs
theorem XT(env:List AV)(L zs:List (List AV))(a0 a1 a2 a3 a4 a5 z:List AV)(h:AH)(off n0:Nat):(St.mk env (L++a0::a1::a2::a3::a4::a5::z::zs) h).cells (.lp (L.length+6) off) n0=sub z off n0:=bT (i:=6) rfl
theorem Yr(env:List AV)(L zs:List (List AV))(a0 a1 a2 a3 a4 a5 z:List AV)(h:AH)(off:Nat)(vs:List AV):(St.mk env (L++a0::a1::a2::a3::a4::a5::z::zs) h).store (.lp (L.length+6) off) vs=gw (fun z'=>⟨env,L++a0::a1::a2::a3::a4::a5::z'::zs,h⟩) (dY ⟨env,L++a0::a1::a2::a3::a4::a5::z::zs,h⟩ (.lp (L.length+6) off) vs) (jz z off vs):=
  cC fun _ hs=>bS (i:=6) rfl hs
theorem YN(env:List AV)(L zs:List (List AV))(a0 a1 a2 a3 a4 a5 a6 z:List AV)(h:AH)(off n0:Nat):(St.mk env (L++a0::a1::a2::a3::a4::a5::a6::z::zs) h).cells (.lp (L.length+7) off) n0=sub z off n0:=bT (i:=7) rfl
theorem XX(env:List AV)(L zs:List (List AV))(a0 a1 a2 a3 a4 a5 a6 z:List AV)(h:AH)(off:Nat)(vs:List AV):(St.mk env (L++a0::a1::a2::a3::a4::a5::a6::z::zs) h).store (.lp (L.length+7) off) vs=gw (fun z'=>⟨env,L++a0::a1::a2::a3::a4::a5::a6::z'::zs,h⟩) (dY ⟨env,L++a0::a1::a2::a3::a4::a5::a6::z::zs,h⟩ (.lp (L.length+7) off) vs) (jz z off vs):=
  cC fun _ hs=>bS (i:=7) rfl hs
theorem X7(env:List AV)(L zs:List (List AV))(a0 a1 a2 a3 a4 a5 a6 a7 z:List AV)(h:AH)(off n0:Nat):(St.mk env (L++a0::a1::a2::a3::a4::a5::a6::a7::z::zs) h).cells (.lp (L.length+8) off) n0=sub z off n0:=bT (i:=8) rfl
theorem YD(env:List AV)(L zs:List (List AV))(a0 a1 a2 a3 a4 a5 a6 a7 z:List AV)(h:AH)(off:Nat)(vs:List AV):(St.mk env (L++a0::a1::a2::a3::a4::a5::a6::a7::z::zs) h).store (.lp (L.length+8) off) vs=gw (fun z'=>⟨env,L++a0::a1::a2::a3::a4::a5::a6::a7::z'::zs,h⟩) (dY ⟨env,L++a0::a1::a2::a3::a4::a5::a6::a7::z::zs,h⟩ (.lp (L.length+8) off) vs) (jz z off vs):=
  cC fun _ hs=>bS (i:=8) rfl hs
theorem YE(env:List AV)(L zs:List (List AV))(a0 a1 a2 a3 a4 a5 a6 a7 a8 z:List AV)(h:AH)(off n0:Nat):(St.mk env (L++a0::a1::a2::a3::a4::a5::a6::a7::a8::z::zs) h).cells (.lp (L.length+9) off) n0=sub z off n0:=bT (i:=9) rfl
theorem X0(env:List AV)(L zs:List (List AV))(a0 a1 a2 a3 a4 a5 a6 a7 a8 z:List AV)(h:AH)(off:Nat)(vs:List AV):(St.mk env (L++a0::a1::a2::a3::a4::a5::a6::a7::a8::z::zs) h).store (.lp (L.length+9) off) vs=gw (fun z'=>⟨env,L++a0::a1::a2::a3::a4::a5::a6::a7::a8::z'::zs,h⟩) (dY ⟨env,L++a0::a1::a2::a3::a4::a5::a6::a7::a8::z::zs,h⟩ (.lp (L.length+9) off) vs) (jz z off vs):=
  cC fun _ hs=>bS (i:=9) rfl hs
theorem Pl(env:List AV)(L zs:List (List AV))(a0 a1 a2 a3 a4 a5 a6 a7 a8 a9 z:List AV)(h:AH)(off n0:Nat):(St.mk env (L++a0::a1::a2::a3::a4::a5::a6::a7::a8::a9::z::zs) h).cells (.lp (L.length+10) off) n0=sub z off n0:=bT (i:=10) rfl
theorem TV(env:List AV)(L zs:List (List AV))(a0 a1 a2 a3 a4 a5 a6 a7 a8 a9 z:List AV)(h:AH)(off:Nat)(vs:List AV):(St.mk env (L++a0::a1::a2::a3::a4::a5::a6::a7::a8::a9::z::zs) h).store (.lp (L.length+10) off) vs=gw (fun z'=>⟨env,L++a0::a1::a2::a3::a4::a5::a6::a7::a8::a9::z'::zs,h⟩) (dY ⟨env,L++a0::a1::a2::a3::a4::a5::a6::a7::a8::a9::z::zs,h⟩ (.lp (L.length+10) off) vs) (jz z off vs):=
  cC fun _ hs=>bS (i:=10) rfl hs
theorem Uo(env:List AV)(L zs:List (List AV))(a0 a1 a2 a3 a4 a5 a6 a7 a8 a9 a10 z:List AV)(h:AH)(off n0:Nat):(St.mk env (L++a0::a1::a2::a3::a4::a5::a6::a7::a8::a9::a10::z::zs) h).cells (.lp (L.length+11) off) n0=sub z off n0:=bT (i:=11) rfl
theorem Lr(env:List AV)(L zs:List (List AV))(a0 a1 a2 a3 a4 a5 a6 a7 a8 a9 a10 z:List AV)(h:AH)(off:Nat)(vs:List AV):(St.mk env (L++a0::a1::a2::a3::a4::a5::a6::a7::a8::a9::a10::z::zs) h).store (.lp (L.length+11) off) vs=gw (fun z'=>⟨env,L++a0::a1::a2::a3::a4::a5::a6::a7::a8::a9::a10::z'::zs,h⟩) (dY ⟨env,L++a0::a1::a2::a3::a4::a5::a6::a7::a8::a9::a10::z::zs,h⟩ (.lp (L.length+11) off) vs) (jz z off vs):=
  cC fun _ hs=>bS (i:=11) rfl hs
theorem Te(env:List AV)(L zs:List (List AV))(a0 a1 a2 a3 a4 a5 a6 a7 a8 a9 a10 a11 z:List AV)(h:AH)(off n0:Nat):(St.mk env (L++a0::a1::a2::a3::a4::a5::a6::a7::a8::a9::a10::a11::z::zs) h).cells (.lp (L.length+12) off) n0=sub z off n0:=bT (i:=12) rfl
theorem QW(env:List AV)(L zs:List (List AV))(a0 a1 a2 a3 a4 a5 a6 a7 a8 a9 a10 a11 z:List AV)(h:AH)(off:Nat)(vs:List AV):(St.mk env (L++a0::a1::a2::a3::a4::a5::a6::a7::a8::a9::a10::a11::z::zs) h).store (.lp (L.length+12) off) vs=gw (fun z'=>⟨env,L++a0::a1::a2::a3::a4::a5::a6::a7::a8::a9::a10::a11::z'::zs,h⟩) (dY ⟨env,L++a0::a1::a2::a3::a4::a5::a6::a7::a8::a9::a10::a11::z::zs,h⟩ (.lp (L.length+12) off) vs) (jz z off vs):=
  cC fun _ hs=>bS (i:=12) rfl hs
theorem gu:type_of% (And.intro @Yg (And.intro @Yo (And.intro @Ye (And.intro @YH (And.intro @XT (And.intro @Yr (And.intro @YN (And.intro @XX (And.intro @X7 (And.intro @YD (And.intro @YE (And.intro @X0 (And.intro @Pl (And.intro @TV (And.intro @Uo (And.intro @Lr (And.intro @Te @QW))))))))))))))))):=And.intro @Yg (And.intro @Yo (And.intro @Ye (And.intro @YH (And.intro @XT (And.intro @Yr (And.intro @YN (And.intro @XX (And.intro @X7 (And.intro @YD (And.intro @YE (And.intro @X0 (And.intro @Pl (And.intro @TV (And.intro @Uo (And.intro @Lr (And.intro @Te @QW))))))))))))))))
end Go.AM
namespace Go.AM
open Go.ChangeShapes
section
variable {P:Program} {W:World} {H:Type} {enc:TypeId×Value→H} {Γ:bG}
theorem BP{e:TypeId}(hu:P.underlying e=some .string){w w':World}{b:Nat}{sp sp':Nat→Bool}{held:Bool}(fuel:Nat)(cs:List Value):
    DataW.trod enc P w b sp held fuel e cs=DataW.trod enc P w' b sp' held fuel e cs:=by
  cases fuel with
  | zero=>simp only[DataW.trod]
  | succ n=>
    simp only[DataW.trod,hu]
    match cs with
    | []=>rfl
    | [v]=>cases v<;>rfl
    | _::_::_=>simp
theorem Ay{t e:TypeId}{n:Nat}(ht:P.underlying t=some (.array n e))(hu:P.underlying e=some .string){w w':World}{b:Nat}{sp sp':Nat→Bool}{held:Bool}(fuel:Nat)(cs:List Value):
    DataW.trod enc P w b sp held fuel t cs=DataW.trod enc P w' b sp' held fuel t cs:=by
  cases fuel with
  | zero=>simp only[DataW.trod]
  | succ k=>
    simp only[DataW.trod,ht]
    have:(fun i=>DataW.trod enc P w b sp held k e ((cs.drop (i*P.cellsOf e)).take (P.cellsOf e)))=fun i=>DataW.trod enc P w' b sp' held k e ((cs.drop (i*P.cellsOf e)).take (P.cellsOf e)):=funext fun i=>BP hu _ _
    rw[this]
theorem wU{nm:String}{w w':World}{sp sp':Nat→Bool}{gs:List (DataW H)}{ps:List MemPlace}{g:Nat}{t e:TypeId}{n:Nat}(hg:P.globalNamed nm=some g)(hty:(P.globals[g]?).map (·.type)=some t)
    (ht:P.underlying t=some (.array n e)) (hu:P.underlying e=some .string) (hk:∀c,c<w.heap.size→w'.heap[c]? = w.heap[c]?) (h:DataW.TrodVars enc P w sp [nm] gs ps):
    DataW.TrodVars enc P w' sp' [nm] gs ps∧∃d,gs=[d]:=by
  match gs,h with
  | d::ds,h=>
    obtain⟨g0,t0,cs,fuel,p,q,h1,h2,h3,h4,h5,h6⟩:=h
    obtain rfl:=Option.some.inj (hg.symm.trans h1)
    obtain rfl:=Option.some.inj (hty.symm.trans h2)
    match ds,h5 with
    | [],h5=>
      refine⟨⟨g,t,cs,fuel,p,q,h1,h2,?_,?_,h5,h6⟩,d,rfl⟩
      · unfold World.var? at h3 ⊢
        rw[h1]at h3 ⊢
        simp only[Option.bind_some]at h3 ⊢
        have hl:g<w.heap.size:=by
          rcases Nat.lt_or_ge g w.heap.size with h|h
          · exact h
          · rw[Array.getElem?_eq_none h]at h3;simp at h3
        rw[hk g hl];exact h3
      · rw[Ay ht hu (w':=w) (sp':=sp)];exact h4
theorem zT{n:Nat}{f:FuncId}{fn:Func}{s:ChangeSpec}{apart fresh handsOn again:Bool}{args:Array Value}{ds gs:List (DataW H)}{before:List MemPlace}{tb:TypeId}{base:Nat}{nm:String}{g:Nat}{tv te:TypeId}{nv:Nat}
    (hp:∀t∈fn.params.toList,eE P n t=true) (hvars:s.vars=[nm]) (hg:P.globalNamed nm=some g) (hty:(P.globals[g]?).map (·.type)=some tv) (htv:P.underlying tv=some (.array nv te)) (hte:P.underlying te=some .string)
    (hres:fn.resultTypes=#[tb]) (htb:P.underlying tb=some .bool)
    (hspec:∀(xs:List (DataW H)) (d:DataW H),xs.length=fn.params.toList.length→s.fn H (xs++[d])={ results:=[.lit (.bool true)],args:=xs,vars:=[d] })
    (t:∀dats:List bN,aY P n fn.params.toList dats→T P Γ f (dats.map bN.av) [] fun v _=>v=.bool true)
    (hval:∀(j:Nat) t v,fn.params[j]? = some t→args[j]? = some v→Value.okWide P W .any base t v)
    (hW:DataW.Whole enc P fn.params.toList s.vars apart W args.toList ds gs before) (hΓ:uu Γ (cE W)):
    Calls P f args W fun e W'=>∃v,e=.returned v∧s.post enc P fn apart fresh handsOn again W args v W':=by
  have hW':=hW
  obtain⟨p,q,hA,hV,rfl,hz,hn⟩:=hW
  rw[hvars]at hV
  obtain⟨-,d,rfl⟩:=wU (w':=W) (sp':=fun _=>true) hg hty htv hte (fun _ _=>rfl) hV
  obtain⟨dats,o1,o2,o3,o4⟩:=tV hp (fun j t v a b=>hval j t v (by simpa using a) (by simpa using b)) hA
  have hlen:args.toList.toArray=args:=by simp
  have ht:=(t dats o1).2 (cE W) W args.toList (Kw W) hΓ o2
  rw[hlen]at ht
  refine ht.mono ?_
  rintro e W2 ⟨v,cv,ρ',h',rfl,rv,rh,ev,rfl⟩
  cases rv
  have hk:∀c,c<W.heap.size→W2.heap[c]? = W.heap[c]?:=fun c hc=>ev.fr c hc (by
    rintro(⟨i,h⟩|⟨b,g,cs,o,n,h,_⟩)
    · simp at h
    · simp at h)
  have kept:W.keptBut W2 fun _=>False:=by
    refine⟨ev.os,ev.out,fun i hi=>?_⟩
    rw[hk i hi]
    split
    · rename_i h1 h2
      rw[h1]at h2
      injection h2 with h2
      injection h2 with h2 h3 h4
      subst h2;subst h3;subst h4
      exact⟨rfl,rfl,rfl,fun _ _=>rfl⟩
    · rename_i h1 h2
      rw[h1]at h2
      injection h2 with h2
      injection h2 with h2 h3
      exact .inr ⟨h2.symm,h3.symm⟩
    · rfl
  have hfz:∀a:Addr,a.block<W.heap.size→W2.frozen? a=W.frozen? a:=fun a ha=>by
    unfold World.frozen?;rw[hk _ ha]
  have hsp:=hspec ds d (by simpa using o3)
  refine⟨.bool true,rfl,?_⟩
  have hold:∀x∈p++q,(fun b=>decide (b<W.heap.size)) x.block=true:=fun x hx=>by simpa using hW'.lt x hx
  have hr:∀(b:Nat) (sp:Nat→Bool) (hd:Bool),DataW.TrodAll enc P W2 b sp hd fn.resultTypes.toList ((Value.bool true).resultList fn.resultTypes.size) (s.fn H (ds++[d])).results []:=by
    intro b sp hd
    rw[hsp,hres]
    exact trodAll_mk1 (⟨1,by simp[DataW.trod,htb,Value.cells]⟩:DataW.Trod enc P W2 b sp hd tb (.bool true) (.lit (.bool true)) [])
  have ha:∀sp:Nat→Bool,(∀x∈p,sp x.block=true)→DataW.TrodAll enc P W2 0 sp true fn.params.toList args.toList (s.fn H (ds++[d])).args p:=by
    intro sp h
    rw[hsp]
    exact o4 hk sp h
  have hv:∀sp:Nat→Bool,DataW.TrodVars enc P W2 sp s.vars (s.fn H (ds++[d])).vars q:=by
    intro sp
    rw[hsp,hvars]
    exact(wU hg hty htv hte hk hV).1
  refine⟨ds,[d],p++q,[],p,q,hW',hr _ _ _,ha _ (fun x hx=>hold x (List.mem_append_left _ hx)),hv _,World.keptBut_mono (fun x hx=>hx.elim) kept,fun _=>?_⟩
  refine⟨?_,_,_,([]++p)++q,⟨[]++p,q,trodAll_append (ha _ (fun _ _=>rfl)) (hr _ _ _),hv _,rfl,?_,?_⟩,?_⟩
  · intro j ty r h1 h2
    rw[hres]at h1 h2
    cases j with
    | zero=>
      simp at h1
      subst h1
      simp[Value.resultList]at h2
      subst h2
      simp[Value.okWide,htb,Cell.okWide,Cell.ok]
    | succ j=>simp at h1
  · intro b off hb
    have hb':MemPlace.cell b off∈p++q:=by simpa using hb
    rw[hfz _ (by simpa[MemPlace.block]using hW'.lt _ hb')]
    exact hz b off hb'
  · intro ha'
    have:=hn ha'
    simpa using this
  · intro x hx _
    simpa using hx
def Ee{H:Type}(zs:List (List UInt8)):DataW H:=.agg (zs.map fun z=>.lit (.string z))
theorem zU{P:Program}{H:Type}{enc:TypeId×Value→H}{w:World}{b:Nat}{sp:Nat→Bool}{held:Bool}{fuel:Nat}{e:TypeId}{cs:List Value}{x:DataW H×List MemPlace}(hu:P.underlying e=some .string)
    (h:DataW.trod enc P w b sp held fuel e cs=some x):∃s:ByteArray,cs=[.string s]∧x.1=.lit (.string s.data.toList):=by
  cases fuel with
  | zero=>simp[DataW.trod]at h
  | succ n=>
    simp only[DataW.trod,hu]at h
    match cs,h with
    | [],h=>simp at h
    | [v],h=>
      cases v<;>simp at h
      obtain⟨_,rfl⟩:=h
      exact⟨_,rfl,rfl⟩
    | _::_::_,h=>simp at h
theorem qM{P:Program}{H:Type}{enc:TypeId×Value→H}{w:World}{base:Nat}{sp:Nat→Bool}{held:Bool}{fuel:Nat}{t e:TypeId}{n:Nat}{cs:List Value}{zs:List (List UInt8)}{p:List MemPlace}
    (ht:P.underlying t=some (.array n e)) (he:P.underlying e=some .string) (hce:P.cellsOf e=1) (hct:P.cellsOf t=n)
    (h:DataW.trod enc P w base sp held fuel t cs=some (Ee zs,p)):cs=zs.map fun z=>Value.string ⟨z.toArray⟩:=by
  cases fuel with
  | zero=>simp[DataW.trod]at h
  | succ fuel=>
    simp only[DataW.trod,ht,hce,hct,Nat.mul_one]at h
    split at h
    · rename_i hl
      obtain⟨xs,hm,hx⟩:=Option.map_eq_some_iff.1 h
      have hxs:xs.map (·.1)=zs.map fun z=>(DataW.lit (.string z):DataW H):=by
        have:=congrArg Prod.fst hx
        simpa[Ee]using this
      have hxl:xs.length=n:=by simpa using Go.Lib.mapM_length hm
      have hzl:zs.length=n:=by
        have:=congrArg List.length hxs
        simp at this
        omega
      apply List.ext_getElem?
      intro i
      by_cases hi:i<n
      · obtain⟨b,hb,hf⟩:=Go.Lib.mapM_at hm i i (by simp[hi])
        obtain⟨z,hc,hz⟩:=zU he hf
        have h1:cs[i]? = some (.string z):=by
          have:=congrArg (·[0]?) hc
          simpa[List.getElem?_take,List.getElem?_drop]using this
        have h2:(xs.map (·.1))[i]? = some (DataW.lit (.string z.data.toList):DataW H):=by simp[hb,hz]
        rw[hxs]at h2
        simp only[List.getElem?_map,Option.map_eq_some_iff,DataW.lit.injEq,Lit.string.injEq]at h2
        obtain⟨z',hz',rfl⟩:=h2
        simp[h1,hz']
      · rw[List.getElem?_eq_none (by omega),List.getElem?_eq_none (by simp;omega)]
    · cases h
theorem uP{P:Program}{W:World}{name:String}{zs:List (List UInt8)}{rest:List (String×DataW Unit)}{g:Nat}{t e:TypeId}{n:Nat}
    (hg:P.globalNamed name=some g) (hty:(P.globals[g]?).map (·.type)=some t) (ht:P.underlying t=some (.array n e)) (he:P.underlying e=some .string) (hce:P.cellsOf e=1) (hct:P.cellsOf t=n)
    (h:laidMet P ((name,Ee zs)::rest) W):∃arr,(cE W).imm false g=some arr∧fk (cE W) [] arr 0 (zs.map fun z=>AV.str ⟨z.toArray⟩)∧arr.size=(zs.map fun z=>AV.str ⟨z.toArray⟩).length:=by
  obtain⟨ps,⟨g',t',cs,fuel,p,q,hg',ht',hvar,hd,_,_⟩,_⟩:=h
  obtain rfl:=Option.some.inj (hg.symm.trans hg')
  obtain rfl:=Option.some.inj (hty.symm.trans ht')
  have hcs:=qM ht he hce hct hd
  unfold World.var? at hvar
  rw[hg]at hvar
  simp only[Option.bind_some]at hvar
  split at hvar
  · rename_i cs' T fr hh
    injection hvar with hvar
    subst hvar
    refine⟨_,by simp only[cE,hh];rfl,fun i x hx=>?_,by rw[←Array.length_toList,hcs];simp⟩
    simp only[List.getElem?_map,Option.map_eq_some_iff]at hx
    obtain⟨z,hz,rfl⟩:=hx
    refine⟨.string ⟨z.toArray⟩,?_,.str _ _⟩
    rw[←Array.getElem?_toList,hcs,Nat.zero_add,List.getElem?_map,hz];rfl
  · cases hvar
end
end Go.AM
