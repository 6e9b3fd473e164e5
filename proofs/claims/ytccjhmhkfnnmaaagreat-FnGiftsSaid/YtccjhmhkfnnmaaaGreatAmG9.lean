import Derived.Test.YtccjhmhkfnnmaaaGreatAmG8
set_option linter.unusedVariables false
set_option linter.unusedSimpArgs false
namespace Go.AM
theorem Xg(e:List AV)(L zs:List (List AV))(a b d e z:List AV)(h:AH)(off n0:Nat):(St.mk e (L++a::b::d::e::z::zs) h).cells (.lp (L.length+4) off) n0=sub z off n0:=cT (i:=4) rfl
theorem Wz(e:List AV)(L zs:List (List AV))(a b d e z:List AV)(h:AH)(off:Nat)(vs:List AV):(St.mk e (L++a::b::d::e::z::zs) h).store (.lp (L.length+4) off) vs=jT (fun z'=>⟨e,L++a::b::d::e::z'::zs,h⟩) (hS ⟨e,L++a::b::d::e::z::zs,h⟩ (.lp (L.length+4) off) vs) (mW z off vs):=
  eF fun _ hs=>cU (i:=4) rfl hs
theorem WN(L:List (List AV))(a b d e:List AV):(L++[a,b,d,e]).length=L.length+4:=by simp
theorem WR(L:List (List AV))(a b d e z:List AV):(L++[a,b,d,e])++[z]=L++[a,b,d,e,z]:=by simp
theorem WL(e:List AV)(L zs:List (List AV))(a b d e f z:List AV)(h:AH)(off n0:Nat):(St.mk e (L++a::b::d::e::f::z::zs) h).cells (.lp (L.length+5) off) n0=sub z off n0:=cT (i:=5) rfl
theorem WC(e:List AV)(L zs:List (List AV))(a b d e f z:List AV)(h:AH)(off:Nat)(vs:List AV):(St.mk e (L++a::b::d::e::f::z::zs) h).store (.lp (L.length+5) off) vs=jT (fun z'=>⟨e,L++a::b::d::e::f::z'::zs,h⟩) (hS ⟨e,L++a::b::d::e::f::z::zs,h⟩ (.lp (L.length+5) off) vs) (mW z off vs):=
  eF fun _ hs=>cU (i:=5) rfl hs
theorem Xq(L:List (List AV))(a b d e f:List AV):(L++[a,b,d,e,f]).length=L.length+5:=by simp
theorem Wt(L:List (List AV))(a b d e f z:List AV):(L++[a,b,d,e,f])++[z]=L++[a,b,d,e,f,z]:=by simp
theorem Xo(e:List AV)(L zs:List (List AV))(a b d e f g z:List AV)(h:AH)(off n0:Nat):(St.mk e (L++a::b::d::e::f::g::z::zs) h).cells (.lp (L.length+6) off) n0=sub z off n0:=cT (i:=6) rfl
theorem Xb(e:List AV)(L zs:List (List AV))(a b d e f g z:List AV)(h:AH)(off:Nat)(vs:List AV):(St.mk e (L++a::b::d::e::f::g::z::zs) h).store (.lp (L.length+6) off) vs=jT (fun z'=>⟨e,L++a::b::d::e::f::g::z'::zs,h⟩) (hS ⟨e,L++a::b::d::e::f::g::z::zs,h⟩ (.lp (L.length+6) off) vs) (mW z off vs):=
  eF fun _ hs=>cU (i:=6) rfl hs
theorem Wu(L:List (List AV))(a b d e f g:List AV):(L++[a,b,d,e,f,g]).length=L.length+6:=by simp
theorem W6(L:List (List AV))(a b d e f g z:List AV):(L++[a,b,d,e,f,g])++[z]=L++[a,b,d,e,f,g,z]:=by simp
theorem W0(e:List AV)(L zs:List (List AV))(a b d e f g i z:List AV)(h:AH)(off n0:Nat):(St.mk e (L++a::b::d::e::f::g::i::z::zs) h).cells (.lp (L.length+7) off) n0=sub z off n0:=cT (i:=7) rfl
theorem Wo(e:List AV)(L zs:List (List AV))(a b d e f g i z:List AV)(h:AH)(off:Nat)(vs:List AV):(St.mk e (L++a::b::d::e::f::g::i::z::zs) h).store (.lp (L.length+7) off) vs=jT (fun z'=>⟨e,L++a::b::d::e::f::g::i::z'::zs,h⟩) (hS ⟨e,L++a::b::d::e::f::g::i::z::zs,h⟩ (.lp (L.length+7) off) vs) (mW z off vs):=
  eF fun _ hs=>cU (i:=7) rfl hs
theorem WW(L:List (List AV))(a b d e f g i:List AV):(L++[a,b,d,e,f,g,i]).length=L.length+7:=by simp
theorem Xh(L:List (List AV))(a b d e f g i z:List AV):(L++[a,b,d,e,f,g,i])++[z]=L++[a,b,d,e,f,g,i,z]:=by simp
theorem WS(e:List AV)(L zs:List (List AV))(a b d e f g i j z:List AV)(h:AH)(off n0:Nat):(St.mk e (L++a::b::d::e::f::g::i::j::z::zs) h).cells (.lp (L.length+8) off) n0=sub z off n0:=cT (i:=8) rfl
theorem WI(e:List AV)(L zs:List (List AV))(a b d e f g i j z:List AV)(h:AH)(off:Nat)(vs:List AV):(St.mk e (L++a::b::d::e::f::g::i::j::z::zs) h).store (.lp (L.length+8) off) vs=jT (fun z'=>⟨e,L++a::b::d::e::f::g::i::j::z'::zs,h⟩) (hS ⟨e,L++a::b::d::e::f::g::i::j::z::zs,h⟩ (.lp (L.length+8) off) vs) (mW z off vs):=
  eF fun _ hs=>cU (i:=8) rfl hs
theorem WU(L:List (List AV))(a b d e f g i j:List AV):(L++[a,b,d,e,f,g,i,j]).length=L.length+8:=by simp
theorem Xd(L:List (List AV))(a b d e f g i j z:List AV):(L++[a,b,d,e,f,g,i,j])++[z]=L++[a,b,d,e,f,g,i,j,z]:=by simp
theorem WZ(e:List AV)(L zs:List (List AV))(a b d e f g i j k z:List AV)(h:AH)(off n0:Nat):(St.mk e (L++a::b::d::e::f::g::i::j::k::z::zs) h).cells (.lp (L.length+9) off) n0=sub z off n0:=cT (i:=9) rfl
theorem W9(e:List AV)(L zs:List (List AV))(a b d e f g i j k z:List AV)(h:AH)(off:Nat)(vs:List AV):(St.mk e (L++a::b::d::e::f::g::i::j::k::z::zs) h).store (.lp (L.length+9) off) vs=jT (fun z'=>⟨e,L++a::b::d::e::f::g::i::j::k::z'::zs,h⟩) (hS ⟨e,L++a::b::d::e::f::g::i::j::k::z::zs,h⟩ (.lp (L.length+9) off) vs) (mW z off vs):=
  eF fun _ hs=>cU (i:=9) rfl hs
theorem Wn(L:List (List AV))(a b d e f g i j k:List AV):(L++[a,b,d,e,f,g,i,j,k]).length=L.length+9:=by simp
theorem W3(L:List (List AV))(a b d e f g i j k z:List AV):(L++[a,b,d,e,f,g,i,j,k])++[z]=L++[a,b,d,e,f,g,i,j,k,z]:=by simp
theorem Pw(e:List AV)(L zs:List (List AV))(a b d e f g i j k m z:List AV)(h:AH)(off n0:Nat):(St.mk e (L++a::b::d::e::f::g::i::j::k::m::z::zs) h).cells (.lp (L.length+10) off) n0=sub z off n0:=cT (i:=10) rfl
theorem SC(e:List AV)(L zs:List (List AV))(a b d e f g i j k m z:List AV)(h:AH)(off:Nat)(vs:List AV):(St.mk e (L++a::b::d::e::f::g::i::j::k::m::z::zs) h).store (.lp (L.length+10) off) vs=jT (fun z'=>⟨e,L++a::b::d::e::f::g::i::j::k::m::z'::zs,h⟩) (hS ⟨e,L++a::b::d::e::f::g::i::j::k::m::z::zs,h⟩ (.lp (L.length+10) off) vs) (mW z off vs):=
  eF fun _ hs=>cU (i:=10) rfl hs
theorem Pd(L:List (List AV))(a b d e f g i j k m:List AV):(L++[a,b,d,e,f,g,i,j,k,m]).length=L.length+10:=by simp
theorem QX(L:List (List AV))(a b d e f g i j k m z:List AV):(L++[a,b,d,e,f,g,i,j,k,m])++[z]=L++[a,b,d,e,f,g,i,j,k,m,z]:=by simp
theorem Ps(e:List AV)(L zs:List (List AV))(a b d e f g i j k m n z:List AV)(h:AH)(off n0:Nat):(St.mk e (L++a::b::d::e::f::g::i::j::k::m::n::z::zs) h).cells (.lp (L.length+11) off) n0=sub z off n0:=cT (i:=11) rfl
theorem T0(e:List AV)(L zs:List (List AV))(a b d e f g i j k m n z:List AV)(h:AH)(off:Nat)(vs:List AV):(St.mk e (L++a::b::d::e::f::g::i::j::k::m::n::z::zs) h).store (.lp (L.length+11) off) vs=jT (fun z'=>⟨e,L++a::b::d::e::f::g::i::j::k::m::n::z'::zs,h⟩) (hS ⟨e,L++a::b::d::e::f::g::i::j::k::m::n::z::zs,h⟩ (.lp (L.length+11) off) vs) (mW z off vs):=
  eF fun _ hs=>cU (i:=11) rfl hs
theorem P5(L:List (List AV))(a b d e f g i j k m n:List AV):(L++[a,b,d,e,f,g,i,j,k,m,n]).length=L.length+11:=by simp
theorem Pp(L:List (List AV))(a b d e f g i j k m n z:List AV):(L++[a,b,d,e,f,g,i,j,k,m,n])++[z]=L++[a,b,d,e,f,g,i,j,k,m,n,z]:=by simp
theorem RA(e:List AV)(L zs:List (List AV))(a b d e f g i j k m n o z:List AV)(h:AH)(off n0:Nat):(St.mk e (L++a::b::d::e::f::g::i::j::k::m::n::o::z::zs) h).cells (.lp (L.length+12) off) n0=sub z off n0:=cT (i:=12) rfl
theorem Td(e:List AV)(L zs:List (List AV))(a b d e f g i j k m n o z:List AV)(h:AH)(off:Nat)(vs:List AV):(St.mk e (L++a::b::d::e::f::g::i::j::k::m::n::o::z::zs) h).store (.lp (L.length+12) off) vs=jT (fun z'=>⟨e,L++a::b::d::e::f::g::i::j::k::m::n::o::z'::zs,h⟩) (hS ⟨e,L++a::b::d::e::f::g::i::j::k::m::n::o::z::zs,h⟩ (.lp (L.length+12) off) vs) (mW z off vs):=
  eF fun _ hs=>cU (i:=12) rfl hs
theorem SD(L:List (List AV))(a b d e f g i j k m n o:List AV):(L++[a,b,d,e,f,g,i,j,k,m,n,o]).length=L.length+12:=by simp
theorem Qm(L:List (List AV))(a b d e f g i j k m n o z:List AV):(L++[a,b,d,e,f,g,i,j,k,m,n,o])++[z]=L++[a,b,d,e,f,g,i,j,k,m,n,o,z]:=by simp
theorem PZ(e:List AV)(L zs:List (List AV))(a b d e f g i j k m n o p z:List AV)(h:AH)(off n0:Nat):(St.mk e (L++a::b::d::e::f::g::i::j::k::m::n::o::p::z::zs) h).cells (.lp (L.length+13) off) n0=sub z off n0:=cT (i:=13) rfl
theorem R6(e:List AV)(L zs:List (List AV))(a b d e f g i j k m n o p z:List AV)(h:AH)(off:Nat)(vs:List AV):(St.mk e (L++a::b::d::e::f::g::i::j::k::m::n::o::p::z::zs) h).store (.lp (L.length+13) off) vs=jT (fun z'=>⟨e,L++a::b::d::e::f::g::i::j::k::m::n::o::p::z'::zs,h⟩) (hS ⟨e,L++a::b::d::e::f::g::i::j::k::m::n::o::p::z::zs,h⟩ (.lp (L.length+13) off) vs) (mW z off vs):=
  eF fun _ hs=>cU (i:=13) rfl hs
theorem Uv(L:List (List AV))(a b d e f g i j k m n o p:List AV):(L++[a,b,d,e,f,g,i,j,k,m,n,o,p]).length=L.length+13:=by simp
theorem Qn(L:List (List AV))(a b d e f g i j k m n o p z:List AV):(L++[a,b,d,e,f,g,i,j,k,m,n,o,p])++[z]=L++[a,b,d,e,f,g,i,j,k,m,n,o,p,z]:=by simp
theorem aF:type_of% (And.intro @Xg (And.intro @Wz (And.intro @WN (And.intro @WR (And.intro @WL (And.intro @WC (And.intro @Xq (And.intro @Wt (And.intro @Xo (And.intro @Xb (And.intro @Wu (And.intro @W6 (And.intro @W0 (And.intro @Wo (And.intro @WW (And.intro @Xh (And.intro @WS (And.intro @WI (And.intro @WU (And.intro @Xd (And.intro @WZ (And.intro @W9 (And.intro @Wn (And.intro @W3 (And.intro @Pw (And.intro @SC (And.intro @Pd (And.intro @QX (And.intro @Ps (And.intro @T0 (And.intro @P5 (And.intro @Pp (And.intro @RA (And.intro @Td (And.intro @SD (And.intro @Qm (And.intro @PZ (And.intro @R6 (And.intro @Uv (@Qn)))))))))))))))))))))))))))))))))))))))):=(And.intro @Xg (And.intro @Wz (And.intro @WN (And.intro @WR (And.intro @WL (And.intro @WC (And.intro @Xq (And.intro @Wt (And.intro @Xo (And.intro @Xb (And.intro @Wu (And.intro @W6 (And.intro @W0 (And.intro @Wo (And.intro @WW (And.intro @Xh (And.intro @WS (And.intro @WI (And.intro @WU (And.intro @Xd (And.intro @WZ (And.intro @W9 (And.intro @Wn (And.intro @W3 (And.intro @Pw (And.intro @SC (And.intro @Pd (And.intro @QX (And.intro @Ps (And.intro @T0 (And.intro @P5 (And.intro @Pp (And.intro @RA (And.intro @Td (And.intro @SD (And.intro @Qm (And.intro @PZ (And.intro @R6 (And.intro @Uv (@Qn))))))))))))))))))))))))))))))))))))))))
end Go.AM
namespace Go.AM
end Go.AM
namespace Go.AM
theorem c5{h:AH}{b:Nat}{x:Nat×List AV}(e:bJ h b=some x):b<h.length:=aG (c8 e)
theorem rJ{h:AH}{b:Nat}{x:Nat×List AV}(e:bJ h b=some x)(N:AH):bJ (h++N) b=some x:=by
  have:=c8 e
  exact AN (by rw[List.getElem?_append_left (aG this)];exact this)
theorem uf{e e':List AV}{l l':List (List AV)}{h:AH}{a:AV}{n:Nat}{x:List AV}(ha:∀i o,a≠.lp i o)(hx:(St.mk e l h).cells a n=some x)(N:AH):(St.mk e' l' (h++N)).cells a n=some x:=by
  cases a<;>simp only[St.cells]at hx ⊢<;>try exact hx
  · exact absurd rfl (ha _ _)
  · rw[Option.bind_eq_some_iff]at hx
    obtain⟨y,h1,h2⟩:=hx
    rw[rJ h1];exact h2
theorem IP{p:AV}(h:iJ p=true)(off:Nat):∀i o,ED p off≠.lp i o:=by
  intro i o e;cases p<;>simp[ED,iJ]at e h
theorem Ptr.grow{H:AH}{p:AV}{cs:List AV}(h:Ptr H p cs)(N:AH):Ptr (H++N) p cs:=by
  refine⟨h.nil,h.out,h.n1,h.fld,fun e l off n hn=>?_,fun e l n hn=>?_⟩
  · have h1:=h.rd e l off n hn
    have:sub cs off (n+1)=some ((cs.drop off).take (n+1)):=by simp only[sub];rw[if_pos hn]
    rw[this]at h1 ⊢
    exact uf (IP h.n1 off) h1 N
  · have h1:=h.rd0 e l n hn
    have:sub cs 0 (n+1)=some ((cs.drop 0).take (n+1)):=by simp only[sub];rw[if_pos (by omega)]
    rw[this]at h1 ⊢
    exact uf (by intro i o e;subst e;have:=h.n1;simp[iJ]at this) h1 N
end Go.AM
namespace Go.AM
section
variable {P:Program} {Θ:mQ} {Γ:cj}
theorem Tp(f:RS→Option AV):List.mapM f []=some []:=rfl
theorem Ux(f:RS→Option AV)(x:RS)(xs:List RS):List.mapM f (x::xs)=(f x).bind fun y=>(List.mapM f xs).map (y :: ·):=by
  rw[List.mapM_cons];cases f x<;>simp
  cases List.mapM f xs<;>simp
theorem Pf(vs:List AV):c7 (.tup vs)=vs.all eH:=rfl
def s6(s:St)(i:Nat):AV→AR|.tup vs=>.iH s vs[i]? | _=>.stuck
theorem D4(gl:Bool)(s:St)(x:X)(i:Nat):step Γ gl s (.extr x i)=s6 s i (s.eval Γ x):=by
  simp only[step,s6];cases s.eval Γ x<;>rfl
theorem Ku(s:St)(v:AV)(vs:List AV):s6 s 0 (.tup (v::vs))=.val v s:=rfl
theorem Lk(s:St)(a v:AV)(vs:List AV):s6 s 1 (.tup (a::v::vs))=.val v s:=rfl
theorem LN(s:St)(a b v:AV)(vs:List AV):s6 s 2 (.tup (a::b::v::vs))=.val v s:=rfl
end
theorem ER:type_of% (And.intro @Tp (And.intro @Ux (And.intro @Pf (And.intro @D4 (And.intro @Ku (And.intro @Lk (@LN))))))):=And.intro @Tp (And.intro @Ux (And.intro @Pf (And.intro @D4 (And.intro @Ku (And.intro @Lk (@LN))))))
end Go.AM
namespace Go.AM
def qO{α:Type}(c:α→Int):List α→Int
  | []=>0
  | x::r=>c x+qO c r
theorem Ck{pre cs post vs:List AV}{off:Nat}(h:off+vs.length≤cs.length):cB (pre++(cs++post)) (pre.length+off) vs=pre++(cB cs off vs++post):=by
  simp only[cB]
  rw[List.take_append,List.take_of_length_le (by omega),show pre.length+off-pre.length=off by omega,List.take_append_of_le_length (by omega)]
  rw[List.drop_append,List.drop_of_length_le (by omega),List.nil_append,show pre.length+off+vs.length-pre.length=off+vs.length by omega,List.drop_append_of_le_length h]
  simp
theorem ij{H H':AH}{b:Nat}{x:Nat×List AV}(h:bJ H b=some x)(e:H'[b]? = H[b]?):bJ H' b=some x:=by rw[bO e];exact h
end Go.AM
namespace Go.AM
theorem aO.pick{H:AH}{a:AV}{d:CD}:∀{A B:List AV} {D E:List CD} {fp:List Nat},A.length=D.length→aO H (A++a::B) (D++d::E) fp→fp.Nodup→
    ∃gi,bN H a d gi∧gi.Nodup∧(∀c∈gi,c∈fp)∧∀(H2:AH) (d':CD),(∀c,c∉gi→H2[c]? = H[c]?)→bN H2 a d' gi→aO H2 (A++a::B) (D++d'::E) fp
  | [],B,[],E,fp,_,⟨f1,f2,e,o1,o2⟩,nd=>by
    subst e
    have hd:=List.nodup_append.1 nd
    exact⟨f1,o1,hd.1,fun c h=>by simp[h],fun H2 d' hf o=>⟨f1,f2,rfl,o,o2.frame fun c hc=>hf c (fun h=>hd.2.2 c h c hc rfl)⟩⟩
  | x::A,B,y::D,E,fp,hl,⟨f1,f2,e,o1,o2⟩,nd=>by
    subst e
    have hd:=List.nodup_append.1 nd
    obtain⟨gi,q1,q2,q3,q4⟩:=aO.pick (by simpa using hl) o2 hd.2.1
    exact⟨gi,q1,q2,fun c h=>by simp[q3 c h],fun H2 d' hf o=>⟨f1,f2,rfl,o1.frame fun c hc=>hf c (fun h=>hd.2.2 c hc c (q3 c h) rfl),q4 H2 d' hf o⟩⟩
end Go.AM
namespace Go.AM
def ar.kC(x:ar):Int:=2
def m0.kC(x:m0):Int:=3
def aX.kC(x:aX):Int:=6+qO ar.kC x.args
def cD.kC(x:cD):Int:=2
def aE.kC(x:aE):Int:=9+qO ar.kC x.slots+qO aX.kC x.queue+qO cD.kC x.askers
def aM.kC(x:aM):Int:=3
def aH.kC(x:aH):Int:=2
def aC.kC(x:aC):Int:=4+qO aM.kC x.exports+qO aH.kC x.questions+qO aH.kC x.answers
def aV.kC(x:aV):Int:=2
def aB.kC(x:aB):Int:=11+qO aV.kC x.args
def bc.kC(x:bc):Int:=12+qO aV.kC x.message.args
def aA.kC(x:aA):Int:=1+qO aE.kC x.entities+qO aX.kC x.loop+qO aC.kC x.aq+qO bc.kC x.out
def au.kC(x:au):Int:=4
end Go.AM
namespace Go.AM
theorem aO.Hw{H:AH}{as:List AV}{xs:List (List CD)}{f1:List Nat}(o1:aO H as xs.flatten f1){ys:List AV}{row:List CD}{f2:List Nat}(o2:aO H ys row f2):aO H (as++ys) (xs++[row]).flatten (f1++f2):=by
  rw[List.flatten_append];simpa using o1.append o2
theorem dw{H:AH}{v:AV}{sz bytes:Nat}{xs:List (List CD)}{fp:List Nat}(o:bN H v (.sl sz xs) fp){ys:List AV}{row:List CD}{f2:List Nat}(nd:(fp++f2).Nodup)(h0:0<sz)(hy:ys.length=sz)
    (oy:aO H ys row f2) (hb:(xs.length+1)*(sz+bytes)≤aU):
    ∃v' H' fp',(∀e l,nq ⟨e,l,H++[some (0,ys)]⟩ sz bytes v (dp ⟨e,l,H++[some (0,ys)]⟩ sz false (.gs H.length 0 0 1 1 sz true)) (lenOf (.gs H.length 0 0 1 1 sz true)) (lenOf v)=.val v' ⟨e,l,H'⟩)∧
      bN H' v' (.sl sz (xs++[row])) fp'∧fp'.Nodup∧(∀c,c∉fp→c<H.length→H'[c]? = H[c]?)∧H.length≤H'.length∧(∀c∈fp',c∈fp∨c∈f2∨H.length≤c):=by
  have hno:=oy.bo
  have src:∀e l,dp ⟨e,l,H++[some (0,ys)]⟩ sz false (.gs H.length 0 0 1 1 sz true)=some ys:=fun e l=>by
    simp[dp,St.bp,cw,pC hy]
  have hd:=List.nodup_append.1 nd
  have hrl:row.length=sz:=by rw[←oy.len,hy]
  rcases o.jW with⟨rfl,rfl,rfl⟩|⟨b,g,cap,ex,as,tail,fp',rfl,rfl,hg,h3,ht,hc,ho⟩
  · refine⟨.gs (H.length+1) 0 0 1 1 sz false,(H++[some (0,ys)])++[some (0,ys)],(H.length+1)::f2,fun e l=>?_,?_,?_,?_,?_,?_⟩
    · rw[src]
      simp only[nq,lenOf,kT,St.push]
      rw[if_neg (by omega),if_neg (by simp at hb;omega),if_neg (by omega),if_pos hno]
      simp[AR.EC]
    · have:=bN.sl_mk (h:=(H++[some (0,ys)])++[some (0,ys)]) (b:=H.length+1) (g:=0) (cap:=1) (sz:=sz) (ex:=false) (as:=ys) (tail:=[]) (xs:=[row]) (fp:=f2)
        (by rw[List.append_nil,show H.length+1=(H++[some (0,ys)]).length by simp];exact cw _ _) (by simp[hrl]) (by simp) (by simp) (by simpa using(oy.grow (new:=[some (0,ys)])).grow (new:=[some (0,ys)]))
      simpa using this
    · refine List.nodup_cons.2 ⟨fun hm=>?_,hd.2.1⟩
      have:=oy.lt _ hm;omega
    · intro c _ hl;rw[List.append_assoc,List.getElem?_append_left hl]
    · simp
    · intro c hc
      rcases List.mem_cons.1 hc with rfl|hc
      · exact .inr (.inr (by omega))
      · exact .inr (.inl hc)
  have hbl:b<H.length:=c5 hg
  have hal:as.length=xs.length*sz:=by
    rw[ho.len]
    have:=fy (l:=xs) (f:=fun x=>x) (sz:=sz) h3
    simpa using this
  have hg2:bJ (H++[some (0,ys)]) b=some (g,as++tail):=rJ hg _
  have hnb:b∉f2:=fun hm=>hd.2.2 b (by simp) b hm rfl
  have hnbp:b∉fp':=(List.nodup_cons.1 hd.1).1
  have hset:∀z,((H++[some (0,ys)]).set b z)=(H.set b z)++[some (0,ys)]:=fun z=>by rw[List.set_append_left _ _ hbl]
  have hgs:∀z:Nat×List AV,bJ ((H++[some (0,ys)]).set b (some z)) b=some z:=fun z=>by
    simp only[bJ,hset,List.getElem?_append_left (show b<(H.set b (some z)).length by simpa using hbl)];simp[hbl]
  have hfr:∀(z:Option (Nat×List AV)) (c:Nat),c≠b→c<H.length→((H++[some (0,ys)]).set b z)[c]? = H[c]?:=fun z c hc hl=>by
    rw[hset,List.getElem?_append_left (by simpa using hl),List.getElem?_set_ne (Ne.symm hc)]
  have own2:∀z,aO ((H++[some (0,ys)]).set b z) (as++ys) (xs++[row]).flatten (fp'++f2):=fun z=>
    aO.Hw (ho.frame fun c hc=>hfr z c (fun e=>hnbp (e▸hc)) (ho.lt c hc)) (oy.frame fun c hc=>hfr z c (fun e=>hnb (e▸hc)) (oy.lt c hc))
  have nd2:(b::(fp'++f2)).Nodup:=by simpa using nd
  have h3':∀l∈xs++[row],l.length=sz:=fun l hl=>by
    rcases List.mem_append.1 hl with hl|hl
    · exact h3 l hl
    · rw[List.mem_singleton.1 hl];exact hrl
  have mem:∀c∈b::(fp'++f2),c∈b::fp'∨c∈f2∨H.length≤c:=fun c hc=>by
    rcases List.mem_cons.1 hc with rfl|hc
    · exact .inl (by simp)
    · rcases List.mem_append.1 hc with hc|hc
      · exact .inl (by simp[hc])
      · exact .inr (.inl hc)
  by_cases hcap:xs.length+1≤cap
  · have hroom:(xs.length+1)*sz≤(as++tail).length:=by
      have h1:(xs.length+1)*sz=xs.length*sz+sz:=Nat.succ_mul _ _
      have h2:1*sz≤(cap-xs.length)*sz:=Nat.mul_le_mul_right _ (by omega)
      have:=hc.2
      rw[List.length_append,hal];omega
    have hroom2:(cap-(xs.length+1))*sz≤(tail.drop sz).length:=by
      have h1:cap-xs.length=(cap-(xs.length+1))+1:=by omega
      have h2:=hc.2
      rw[h1,Nat.succ_mul]at h2
      rw[List.length_drop];omega
    have hov:cB (as++tail) (xs.length*sz) ys=(as++ys)++tail.drop sz:=by
      simp only[cB]
      rw[←hal,List.take_left',List.drop_append,List.drop_of_length_le (by omega),show as.length+ys.length-as.length=sz by omega]
      · simp
      · rfl
    refine⟨.gs b g 0 (xs.length+1) cap sz ex,(H++[some (0,ys)]).set b (some (g,(as++ys)++tail.drop sz)),b::(fp'++f2),fun e l=>?_,?_,nd2,?_,by simp,mem⟩
    · rw[src]
      simp only[nq,lenOf,kT]
      rw[if_neg (by omega),if_neg (by omega)]
      simp only[hg2,Option.bind_some,if_true,hno]
      rw[if_pos hcap,if_pos (by rw[Nat.zero_add];exact hroom),Nat.zero_add,hov]
      rfl
    · have:=bN.sl_mk (h:=(H++[some (0,ys)]).set b (some (g,(as++ys)++tail.drop sz))) (b:=b) (g:=g) (cap:=cap) (sz:=sz) (ex:=ex) (as:=as++ys) (tail:=tail.drop sz) (xs:=xs++[row]) (fp:=fp'++f2)
        (hgs _) h3' (fun x hx=>ht x (List.mem_of_mem_drop hx)) ⟨by simpa using hcap,by simpa using hroom2⟩ (own2 _)
      simpa using this
    · intro c hc hl;exact hfr _ c (fun e=>hc (by simp[e])) hl
  · refine⟨.gs b (g+1) 0 (xs.length+1) (xs.length+1) sz false,(H++[some (0,ys)]).set b (some (g+1,as++ys)),b::(fp'++f2),fun e l=>?_,?_,nd2,?_,by simp,mem⟩
    · rw[src]
      simp only[nq,lenOf,kT]
      rw[if_neg (by omega),if_neg (by omega)]
      simp only[hg2,Option.bind_some,if_true,hno]
      rw[if_neg hcap]
      have:sub (as++tail) 0 (xs.length*sz)=some as:=by
        simp only[sub];rw[if_pos (by rw[Nat.zero_add,←hal,List.length_append];omega)];simp[←hal]
      rw[this];rfl
    · have:=bN.sl_mk (h:=(H++[some (0,ys)]).set b (some (g+1,as++ys))) (b:=b) (g:=g+1) (cap:=xs.length+1) (sz:=sz) (ex:=false) (as:=as++ys) (tail:=[]) (xs:=xs++[row]) (fp:=fp'++f2)
        (by rw[List.append_nil];exact hgs _) h3' (by simp) (by simp) (own2 _)
      simpa using this
    · intro c hc hl;exact hfr _ c (fun e=>hc (by simp[e])) hl
end Go.AM
namespace Go.AM
theorem bN.c7{h:AH}{a:AV}{d:CD}{fp:List Nat}(o:bN h a d fp):Go.AM.c7 a=true:=by cases o<;>rfl
theorem dK(h:AH)(sz:Nat):bN (h++[some (0,[])]) (.gs h.length 0 0 0 0 sz true) (.sl sz []) [h.length]:=
  bN.sl_mk (xs:=[]) (as:=[]) (tail:=[]) (by simp[cw]) (by simp) (by simp) (by simp) rfl
theorem NQ{h N H':AH}{fp:List Nat}(hl:(h++N).length≤H'.length)(hf:∀c,c∉fp→c<(h++N).length→H'[c]? = (h++N)[c]?)(hfp:∀c∈fp,h.length≤c):∃N',H'=h++N':=by
  refine⟨H'.drop h.length,?_⟩
  have hlen:h.length≤H'.length:=by simp at hl;omega
  apply List.ext_getElem?
  intro c
  rcases Nat.lt_or_ge c h.length with g|g
  · rw[hf c (fun hc=>by have:=hfp c hc;omega) (by simp;omega),List.getElem?_append_left g,List.getElem?_append_left g]
  · rw[List.getElem?_append_right g,List.getElem?_drop,show h.length+(c-h.length)=c by omega]
theorem Sh(z:List AV):(List.replicate 0 z).flatten=[]:=rfl
theorem S1(z:List AV):(List.replicate 1 z).flatten=z:=by simp
theorem G2(e:List AV)(l:List (List AV))(h:AH)(sz len:Nat)(cs:List AV):En ⟨e,l,h⟩ sz len (some cs)=if cs.all bo=true then .val (.gs h.length 0 0 len len sz true) ⟨e,l,h++[some (0,cs)]⟩else .stuck:=by simp[En,St.push]
theorem jv(x:AV)(xs:List AV):(x::xs).all bo=(bo x && xs.all bo):=rfl
theorem jz:([]:List AV).all bo=true:=rfl
theorem mP(k:IntKind)(n:Int):bo (.int k n)=true:=rfl
theorem p0(b:Bool):bo (.bool b)=true:=rfl
theorem nM(b:ByteArray):bo (.str b)=true:=rfl
theorem Lp:bo .nils=true:=rfl
theorem EA:type_of% (And.intro @Sh (And.intro @S1 (And.intro @G2 (And.intro @jv (And.intro @jz (And.intro @mP (And.intro @p0 (And.intro @nM (And.intro @Lp (And.intro @Bool.and_self (And.intro @Nat.zero_mul (@BV)))))))))))):=And.intro @Sh (And.intro @S1 (And.intro @G2 (And.intro @jv (And.intro @jz (And.intro @mP (And.intro @p0 (And.intro @nM (And.intro @Lp (And.intro @Bool.and_self (And.intro @Nat.zero_mul (@BV)))))))))))
end Go.AM
namespace Go.AM
structure bQ (h H:AH):Prop where
  len:h.length≤H.length
  fr:∀c,c<h.length→H[c]? = h[c]?
theorem bQ.refl(h:AH):bQ h h:=⟨Nat.le_refl _,fun _ _=>rfl⟩
theorem bQ.trans{h1 h2 h3:AH}(a:bQ h1 h2)(b:bQ h2 h3):bQ h1 h3:=⟨Nat.le_trans a.len b.len,fun c hc=>(b.fr c (Nat.lt_of_lt_of_le hc a.len)).trans (a.fr c hc)⟩
theorem bQ.app(h N:AH):bQ h (h++N):=⟨by simp,fun c hc=>List.getElem?_append_left hc⟩
theorem bQ.out{h H:AH}(e:bQ h H):∃N,H=h++N:=by
  refine⟨H.drop h.length,?_⟩
  have:=e.len
  apply List.ext_getElem?
  intro c
  rcases Nat.lt_or_ge c h.length with g|g
  · rw[e.fr c g,List.getElem?_append_left g]
  · rw[List.getElem?_append_right g,List.getElem?_drop,show h.length+(c-h.length)=c by omega]
theorem bQ.mark{h H H':AH}{fp:List Nat}(e:bQ h H)(hl:H'.length=H.length)(hf:∀c,c∉fp→H'[c]? = H[c]?)(hp:∀c∈fp,h.length≤c):bQ h H':=
  ⟨by rw[hl];exact e.len,fun c hc=>(hf c (fun hm=>by have:=hp c hm;omega)).trans (e.fr c hc)⟩
theorem bN.ext{h H:AH}{a:AV}{d:CD}{fp:List Nat}(o:bN h a d fp)(e:bQ h H):bN H a d fp:=o.frame fun c hc=>e.fr c (o.lt c hc)
theorem aO.ext{h H:AH}{as:List AV}{ds:List CD}{fp:List Nat}(o:aO h as ds fp)(e:bQ h H):aO H as ds fp:=o.frame fun c hc=>e.fr c (o.lt c hc)
theorem bN.dT{α:Type}{H:AH}{v:AV}{sz:Nat}{cd:α→List CD}{c:α→List AV}{l:List α}{fp:List Nat}(hc:∀x,(cd x).map (CD.av true)=c x)(o:bN H v (.sl sz (l.map cd)) fp):iE H v (.vs true sz false (l.map c)):=by
  have:=o.view.1
  rw[CD.gx,List.map_map]at this
  have e:((fun x=>List.map (CD.av true) x) ∘ cd)=c:=funext fun x=>hc x
  rwa[e]at this
theorem aO.dT{H:AH}{as:List AV}{cs:List CD}{ys:List AV}{fp:List Nat}(hc:cs.map (CD.av true)=ys)(o:aO H as cs fp):iE H (.agg as) (.agg ys):=by
  subst hc
  have:=o.snap.spec
  refine .agg as _ this.1 (fun i=>as.getD i .any) (fun i y hy=>?_) (fun i y hy=>?_)
  · obtain⟨x,hx,_⟩:=this.2 i y hy;simp[List.getD_eq_getElem?_getD,hx]
  · obtain⟨x,hx,hf⟩:=this.2 i y hy;simpa[List.getD_eq_getElem?_getD,hx]using hf
theorem aS.c1{h H:AH}{d:CD}{v:AV}(f:aS h [.c d] v H):∃fp,bN H v d fp∧fp.Nodup∧(∀b∈fp,h.length≤b)∧bQ h H:=by
  obtain⟨new,fp,rfl,o,nd,hb⟩:=f.one;exact⟨fp,o,nd,hb,bQ.app h new⟩
theorem aS.a1{h H:AH}{cs:List CD}{v:AV}(f:aS h [.a cs] v H):∃as fp,v=.agg as∧aO H as cs fp∧fp.Nodup∧(∀b∈fp,h.length≤b)∧bQ h H:=by
  obtain⟨as,new,fp,e,rfl,o,nd,hb⟩:=f.Wb;exact⟨as,fp,e,o,nd,hb,bQ.app h new⟩
theorem aS.c2{h H:AH}{d d':CD}(hd:d'.flat=true){v:AV}(f:aS h [.c d,.c d'] v H):∃a fp,v=.tup [a,d'.av true]∧bN H a d fp∧fp.Nodup∧(∀b∈fp,h.length≤b)∧bQ h H:=by
  obtain⟨vs,new,fp,rfl,rfl,o,nd,hb,_⟩:=f
  match vs,o with
  | [a,a'],⟨f1,f2,e,o1,f3,f4,e',o2,e''⟩=>
    have o2:bN (h++new) a' d' f3:=o2
    have e'':f4=[]:=e''
    subst e''
    have:a'=d'.av true∧f3=[]:=by
      cases d' with
      | i=>obtain⟨rfl,rfl⟩:=hU.1 o2;simp[CD.fb]
      | b=>obtain⟨rfl,rfl⟩:=jP.1 o2;simp[CD.fc]
      | s=>obtain⟨rfl,rfl⟩:=jm.1 o2;simp[CD.k8]
      | sl=>cases hd
    obtain⟨rfl,rfl⟩:=this
    simp at e';subst e'
    simp at e;subst e
    exact⟨a,fp,rfl,o1,nd,hb,bQ.app h new⟩
theorem aS.a2{h H:AH}{cs:List CD}{d':CD}(hd:d'.flat=true){v:AV}(f:aS h [.a cs,.c d'] v H):∃as fp,v=.tup [.agg as,d'.av true]∧aO H as cs fp∧fp.Nodup∧(∀b∈fp,h.length≤b)∧bQ h H:=by
  obtain⟨vs,new,fp,rfl,rfl,o,nd,hb,_⟩:=f
  match vs,o with
  | [a,a'],⟨f1,f2,e,o1,f3,f4,e',o2,e''⟩=>
    have o2:bN (h++new) a' d' f3:=o2
    have e'':f4=[]:=e''
    subst e''
    obtain⟨as,rfl,o1⟩:=o1
    have:a'=d'.av true∧f3=[]:=by
      cases d' with
      | i=>obtain⟨rfl,rfl⟩:=hU.1 o2;simp[CD.fb]
      | b=>obtain⟨rfl,rfl⟩:=jP.1 o2;simp[CD.fc]
      | s=>obtain⟨rfl,rfl⟩:=jm.1 o2;simp[CD.k8]
      | sl=>cases hd
    obtain⟨rfl,rfl⟩:=this
    simp at e';subst e'
    simp at e;subst e
    exact⟨as,fp,rfl,o1,nd,hb,bQ.app h new⟩
theorem lZ(a:AV):i9 [a]=a:=rfl
theorem my(a b:AV):i9 [a,b]=.tup [a,b]:=rfl
theorem vN(β:Bool)(d:CD):(RD.c d).av β=d.av β:=rfl
theorem vK(β:Bool)(cs:List CD):(RD.a cs).av β=.agg (cs.map (CD.av β)):=rfl
theorem bm{h:AH}:mO h [] []:=trivial
theorem aI{h:AH}{x y:AV}{xs ys:List AV}(a:iE h x y)(b:mO h xs ys):mO h (x::xs) (y::ys):=⟨a,b⟩
end Go.AM
namespace Go.AM
theorem Bv{H:AH}{v:AV}{sz bytes:Nat}{xs:List (List CD)}{fp:List Nat}(o:bN H v (.sl sz xs) fp){ys:List AV}{rows:List (List CD)}{f2:List Nat}(nd:(fp++f2).Nodup)(h0:0<sz)
    (hr:∀r∈rows,r.length=sz) (oy:aO H ys rows.flatten f2) (hb:(xs.length+rows.length)*(sz+bytes)≤aU):
    ∃v' H' fp',(∀e l,kT ⟨e,l,H⟩ sz bytes v ys rows.length xs.length=some (v',⟨e,l,H'⟩))∧
      bN H' v' (.sl sz (xs++rows)) fp'∧fp'.Nodup∧(∀c,c∉fp→c<H.length→H'[c]? = H[c]?)∧H.length≤H'.length∧(∀c∈fp',c∈fp∨c∈f2∨H.length≤c):=by
  have hno:=oy.bo
  have hd:=List.nodup_append.1 nd
  have hyl:ys.length=rows.length*sz:=by
    rw[oy.len]
    have:=fy (l:=rows) (f:=fun x=>x) (sz:=sz) hr
    simpa using this
  rcases o.jW with⟨rfl,rfl,rfl⟩|⟨b,g,cap,ex,as,tail,fp',rfl,rfl,hg,h3,ht,hc,ho⟩
  · by_cases hz:rows.length=0
    · have e:rows=[]:=List.length_eq_zero_iff.1 hz
      subst e
      refine⟨.nils,H,[],fun e l=>?_,.nil _,by simp,fun _ _ _=>rfl,Nat.le_refl _,by simp⟩
      simp only[kT]
      rw[if_neg (by omega),if_neg (by simp)];rfl
    · refine⟨.gs H.length 0 0 rows.length rows.length sz false,H++[some (0,ys)],H.length::f2,fun e l=>?_,?_,?_,?_,by simp,?_⟩
      · simp only[kT,St.push]
        rw[if_neg (by omega),if_neg (by simp only[List.length_nil]at hb ⊢;omega),if_neg hz,if_pos hno]
      · have:=bN.sl_mk (h:=H++[some (0,ys)]) (b:=H.length) (g:=0) (cap:=rows.length) (sz:=sz) (ex:=false) (as:=ys) (tail:=[]) (xs:=rows) (fp:=f2)
          (by rw[List.append_nil];exact cw _ _) hr (by simp) (by simp) (oy.grow (new:=[some (0,ys)]))
        simpa using this
      · exact List.nodup_cons.2 ⟨fun hm=>by have:=oy.lt _ hm;omega,hd.2.1⟩
      · intro c _ hl;rw[List.getElem?_append_left hl]
      · intro c hc
        rcases List.mem_cons.1 hc with rfl|hc
        · exact .inr (.inr (Nat.le_refl _))
        · exact .inr (.inl hc)
  have hbl:b<H.length:=c5 hg
  have hal:as.length=xs.length*sz:=by
    rw[ho.len]
    have:=fy (l:=xs) (f:=fun x=>x) (sz:=sz) h3
    simpa using this
  have hnb:b∉f2:=fun hm=>hd.2.2 b (by simp) b hm rfl
  have hnbp:b∉fp':=(List.nodup_cons.1 hd.1).1
  have hgs:∀z:Nat×List AV,bJ (H.set b (some z)) b=some z:=fun z=>by simp[bJ,hbl]
  have hfr:∀(z:Option (Nat×List AV)) (c:Nat),c≠b→(H.set b z)[c]? = H[c]?:=fun z c hc=>List.getElem?_set_ne (Ne.symm hc)
  have own2:∀z,aO (H.set b z) (as++ys) (xs++rows).flatten (fp'++f2):=fun z=>by
    rw[List.flatten_append]
    exact aO.append (ho.frame fun c hc=>hfr z c (fun e=>hnbp (e▸hc))) (oy.frame fun c hc=>hfr z c (fun e=>hnb (e▸hc)))
  have nd2:(b::(fp'++f2)).Nodup:=by simpa using nd
  have h3':∀l∈xs++rows,l.length=sz:=fun l hl=>by
    rcases List.mem_append.1 hl with hl|hl
    · exact h3 l hl
    · exact hr l hl
  have mem:∀c∈b::(fp'++f2),c∈b::fp'∨c∈f2∨H.length≤c:=fun c hc=>by
    rcases List.mem_cons.1 hc with rfl|hc
    · exact .inl (by simp)
    · rcases List.mem_append.1 hc with hc|hc
      · exact .inl (by simp[hc])
      · exact .inr (.inl hc)
  by_cases hcap:xs.length+rows.length≤cap
  · have hroom:(xs.length+rows.length)*sz≤(as++tail).length:=by
      have h1:(xs.length+rows.length)*sz=xs.length*sz+rows.length*sz:=Nat.add_mul _ _ _
      have h2:rows.length*sz≤(cap-xs.length)*sz:=Nat.mul_le_mul_right _ (by omega)
      have:=hc.2
      rw[List.length_append,hal];omega
    have hroom2:(cap-(xs.length+rows.length))*sz≤(tail.drop ys.length).length:=by
      have h1:cap-xs.length=(cap-(xs.length+rows.length))+rows.length:=by omega
      have h2:=hc.2
      rw[h1,Nat.add_mul]at h2
      rw[List.length_drop,hyl];omega
    have hov:cB (as++tail) (xs.length*sz) ys=(as++ys)++tail.drop ys.length:=by
      simp only[cB]
      rw[←hal,List.take_left',List.drop_append,List.drop_of_length_le (by omega),show as.length+ys.length-as.length=ys.length by omega]
      · simp
      · rfl
    refine⟨.gs b g 0 (xs.length+rows.length) cap sz ex,H.set b (some (g,(as++ys)++tail.drop ys.length)),b::(fp'++f2),fun e l=>?_,?_,nd2,?_,by simp,mem⟩
    · simp only[kT]
      rw[if_neg (by omega),if_neg (by omega)]
      simp only[hg,Option.bind_some,if_true,hno]
      rw[if_pos hcap,if_pos (by rw[Nat.zero_add];exact hroom),Nat.zero_add,hov]
    · have:=bN.sl_mk (h:=H.set b (some (g,(as++ys)++tail.drop ys.length))) (b:=b) (g:=g) (cap:=cap) (sz:=sz) (ex:=ex) (as:=as++ys) (tail:=tail.drop ys.length) (xs:=xs++rows) (fp:=fp'++f2)
        (hgs _) h3' (fun x hx=>ht x (List.mem_of_mem_drop hx)) ⟨by simpa using hcap,by simpa using hroom2⟩ (own2 _)
      simpa using this
    · intro c hc hl;exact hfr _ c (fun e=>hc (by simp[e]))
  · refine⟨.gs b (g+1) 0 (xs.length+rows.length) (xs.length+rows.length) sz false,H.set b (some (g+1,as++ys)),b::(fp'++f2),fun e l=>?_,?_,nd2,?_,by simp,mem⟩
    · simp only[kT]
      rw[if_neg (by omega),if_neg (by omega)]
      simp only[hg,Option.bind_some,if_true,hno]
      rw[if_neg hcap]
      have:sub (as++tail) 0 (xs.length*sz)=some as:=by
        simp only[sub];rw[if_pos (by rw[Nat.zero_add,←hal,List.length_append];omega)];simp[←hal]
      rw[this];rfl
    · have:=bN.sl_mk (h:=H.set b (some (g+1,as++ys))) (b:=b) (g:=g+1) (cap:=xs.length+rows.length) (sz:=sz) (ex:=false) (as:=as++ys) (tail:=[]) (xs:=xs++rows) (fp:=fp'++f2)
        (by rw[List.append_nil];exact hgs _) h3' (by simp) (by simp) (own2 _)
      simpa using this
    · intro c hc hl;exact hfr _ c (fun e=>hc (by simp[e]))
theorem oH{H:AH}:∀{as:List AV} {cs:List CD} {fp:List Nat},cs.all CD.flat=true→aO H as cs fp→fp=[]
  | [],[],_,_,o=>o
  | a::as,d::ds,fp,h,⟨f1,f2,e,o1,o2⟩=>by
    simp only[List.all_cons,Bool.and_eq_true]at h
    have e2:=oH h.2 o2
    have e1:f1=[]:=by cases o1<;>first|rfl|(simp[CD.flat]at h)
    rw[e,e1,e2];rfl
theorem dE{H:AH}{v:AV}{sz:Nat}{xs:List (List CD)}{fp:List Nat}(o:bN H v (.sl sz xs) fp):lenOf v=some xs.length∧rE false v=some (.int .i64 xs.length):=by
  rcases o.jW with⟨rfl,rfl,rfl⟩|⟨b,g,cap,ex,as,tail,fp',rfl,rfl,hg,h3,ht,hc,ho⟩<;>exact⟨rfl,rfl⟩
theorem Bu{H:AH}{v w:AV}{sz bytes:Nat}{xs ys:List (List CD)}{fp fw:List Nat}(o:bN H v (.sl sz xs) fp)(nd:fp.Nodup)(h0:0<sz)(ow:bN H w (.sl sz ys) fw)(hf:ys.flatten.all CD.flat=true)
    (hb:(xs.length+ys.length)*(sz+bytes)≤aU):
    ∃v' H' fp',(∀e l,nq ⟨e,l,H⟩ sz bytes v (dp ⟨e,l,H⟩ sz false w) (lenOf w) (lenOf v)=.val v' ⟨e,l,H'⟩)∧
      bN H' v' (.sl sz (xs++ys)) fp'∧fp'.Nodup∧(∀c,c∉fp→c<H.length→H'[c]? = H[c]?)∧H.length≤H'.length∧(∀c∈fp',c∈fp∨H.length≤c):=by
  have L1:=(dE o).1
  have L2:=(dE ow).1
  obtain⟨zs,hz,oz,hr⟩:∃zs,(∀e l,dp ⟨e,l,H⟩ sz false w=some zs)∧aO H zs ys.flatten []∧∀r∈ys,r.length=sz:=by
    rcases ow.jW with⟨rfl,rfl,rfl⟩|⟨b,g,cap,ex,as,tail,fp',rfl,rfl,hg,h3,ht,hc,ho⟩
    · exact⟨[],fun e l=>rfl,rfl,by simp⟩
    · refine⟨as,fun e l=>?_,?_,h3⟩
      · have hal:as.length=ys.length*sz:=by
          rw[ho.len]
          have:=fy (l:=ys) (f:=fun x=>x) (sz:=sz) h3
          simpa using this
        simp only[dp,St.bp,if_true,hg,Option.bind_some]
        simp only[sub];rw[if_pos (by rw[Nat.zero_add,←hal,List.length_append];omega)];simp[←hal]
      · have:=oH hf ho
        rwa[this]at ho
  obtain⟨v',H',fp',h1,h2,h3,h4,h5,h6⟩:=Bv (bytes:=bytes) o (f2:=[]) (by simpa using nd) h0 hr oz hb
  refine⟨v',H',fp',fun e l=>?_,h2,h3,h4,h5,fun c hc=>?_⟩
  · rw[hz,L1,L2];simp only[nq,h1];rfl
  · rcases h6 c hc with g|g|g
    · exact .inl g
    · simp at g
    · exact .inr g
theorem kR{α:Type}{H:AH}{v:AV}{β:Bool}{sz bytes:Nat}{xs:List (List CD)}{l:List α}{c:α→List AV}{cd:α→List CD}{fp:List Nat}(o:bN H v (.sl sz xs) fp)(nd:fp.Nodup)(h0:0<sz)
    (hd:∀x,(cd x).length=sz∧(cd x).all CD.flat=true) (hcd:∀x,c x=(cd x).map (CD.av false)) (hb:(xs.length+l.length)*(sz+bytes)≤aU):
    ∃v' H' fp',(∀e L,nq ⟨e,L,H⟩ sz bytes v (dp ⟨e,L,H⟩ sz false (.vs β sz false (l.map c))) (lenOf (.vs β sz false (l.map c))) (lenOf v)=.val v' ⟨e,L,H'⟩)∧
      bN H' v' (.sl sz (xs++l.map cd)) fp'∧fp'.Nodup∧(∀c,c∉fp→c<H.length→H'[c]? = H[c]?)∧H.length≤H'.length∧(∀c∈fp',c∈fp∨H.length≤c):=by
  have L1:=(dE o).1
  have hfl:(l.map cd).flatten.all CD.flat=true:=by
    rw[List.all_flatten,List.all_eq_true];intro y hy;obtain⟨x,_,rfl⟩:=List.mem_map.1 hy;exact(hd x).2
  have oz:aO H ((l.map c).flatten) (l.map cd).flatten []:=by
    rw[qG hcd];exact jA false hfl
  obtain⟨v',H',fp',h1,h2,h3,h4,h5,h6⟩:=Bv (bytes:=bytes) o (f2:=[]) (by simpa using nd) h0 (fun r hr=>by obtain⟨x,_,rfl⟩:=List.mem_map.1 hr;exact(hd x).1) oz (by simpa using hb)
  refine⟨v',H',fp',fun e L=>?_,h2,h3,h4,h5,fun c hc=>?_⟩
  · rw[L1];simp only[dp,St.bp,if_true,lenOf,List.length_map,nq]
    have:=h1 e L
    rw[List.length_map]at this
    rw[this];rfl
  · rcases h6 c hc with g|g|g
    · exact .inl g
    · simp at g
    · exact .inr g
theorem bQ.vF{h H0 H':AH}{fp:List Nat}(e:bQ h H0)(hl:H0.length≤H'.length)(hf:∀c,c∉fp→c<H0.length→H'[c]? = H0[c]?)(hp:∀c∈fp,h.length≤c):bQ h H':=
  ⟨Nat.le_trans e.len hl,fun c hc=>(hf c (fun hm=>by have:=hp c hm;omega) (by have:=e.len;omega)).trans (e.fr c hc)⟩
end Go.AM
namespace Go.AM
variable {P:Program} {Γ:cj}
theorem T.ua{f:FuncId}{args:List AV}{h:AH}{d d':CD}(hd:d'.flat=true)(t:T P Γ f args h fun v h'=>∃a new fp,v=.tup [a,d'.av true]∧h'=h++new∧bN h' a d fp∧fp.Nodup∧∀b∈fp,h.length≤b):T P Γ f args h (aS h [.c d,.c d']):=
  t.fresh fun v h' ⟨a,new,fp,e1,e2,o,nd,hb⟩=>⟨[a,d'.av true],new,fp,e1,e2,⟨fp,[],by simp,o,⟨[],[],rfl,CD.k7 hd true,rfl⟩⟩,nd,hb⟩
theorem T.tW{f:FuncId}{args:List AV}{h:AH}{cs:List CD}{d':CD}(hd:d'.flat=true)(t:T P Γ f args h fun v h'=>∃aa new fp,v=.tup [.agg aa,d'.av true]∧h'=h++new∧aO h' aa cs fp∧fp.Nodup∧∀b∈fp,h.length≤b):T P Γ f args h (aS h [.a cs,.c d']):=
  t.fresh fun v h' ⟨a,new,fp,e1,e2,o,nd,hb⟩=>⟨[.agg a,d'.av true],new,fp,e1,e2,⟨fp,[],by simp,⟨a,rfl,o⟩,⟨[],[],rfl,CD.k7 hd true,rfl⟩⟩,nd,hb⟩
theorem ky(h:AH){sz:Nat}{ys:List AV}{row:List CD}{f2:List Nat}(hy:ys.length=sz)(o:aO h ys row f2):bN (h++[some (0,ys)]) (.gs h.length 0 0 1 1 sz true) (.sl sz [row]) (h.length::f2):=
  bN.sl_mk (h:=h++[some (0,ys)]) (b:=h.length) (g:=0) (cap:=1) (sz:=sz) (ex:=true) (as:=ys) (tail:=[]) (xs:=[row]) (fp:=f2) (by rw[List.append_nil];exact cw _ _) (by simp[←o.len,hy]) (by simp) (by simp) (by simpa using o.grow (new:=[some (0,ys)]))
theorem bQ.mem{h H:AH}(e:bQ h H)(a b:List AV)(l:List (List AV)):Mem ⟨a,l,h⟩ ⟨b,l,H⟩:=
  ⟨fun _ _ hx=>hx,fun c x hx=>by
    have h1:=c8 hx
    exact AN (by show H[c]? = _;rw[e.fr c (aG h1)];exact h1)⟩
end Go.AM
namespace Go.AM
section
variable {α:Type} {c:α→List AV} {sz:Nat} (hc:∀x,(c x).length=sz)
include hc
theorem ko{m:List α}{k:Nat}(hk:k<m.length)(tail:List AV):(m.map c).flatten++tail=((m.take k).map c).flatten++(c m[k]++(((m.drop (k+1)).map c).flatten++tail))∧((m.take k).map c).flatten.length=k*sz:=by
  constructor
  · have e:m=m.take k++m[k]::m.drop (k+1):=by rw[←List.drop_eq_getElem_cons hk,List.take_append_drop]
    conv=>lhs;rw[e]
    simp only[List.map_append,List.map_cons,List.flatten_append,List.flatten_cons,List.append_assoc]
  · rw[fy (fun x _=>hc x),List.length_take,Nat.min_eq_left (Nat.le_of_lt hk)]
theorem BK{m:List α}{k:Nat}(hk:k<m.length)(tail:List AV):sub ((m.map c).flatten++tail) (k*sz) sz=some (c m[k]):=by
  obtain⟨h1,h2⟩:=ko hc hk tail
  rw[h1]
  simp only[sub]
  rw[if_pos (by simp only[List.length_append,h2,hc];omega),←h2,List.drop_left,List.take_append_of_le_length (by rw[hc];exact Nat.le_refl _),List.take_of_length_le (by rw[hc];exact Nat.le_refl _)]
theorem Hl{m:List α}{k:Nat}(hk:k<m.length)(x:α)(tail:List AV):cB ((m.map c).flatten++tail) (k*sz) (c x)=((m.set k x).map c).flatten++tail:=by
  obtain⟨h1,h2⟩:=ko hc hk tail
  have hk':k<(m.set k x).length:=by simpa using hk
  obtain⟨h3,h4⟩:=ko hc hk' tail
  rw[h1,h3]
  have:=Ck (pre:=((m.take k).map c).flatten) (cs:=c m[k]) (post:=((m.drop (k+1)).map c).flatten++tail) (vs:=c x) (off:=0) (by rw[hc,hc];omega)
  simp only[h2,Nat.add_zero]at this
  rw[this]
  have e1:(m.set k x).take k=m.take k:=by rw[List.take_set_of_le (Nat.le_refl _)]
  have e2:(m.set k x).drop (k+1)=m.drop (k+1):=by rw[List.drop_set_of_lt (by omega)]
  have e3:cB (c m[k]) 0 (c x)=c x:=by simp[cB,hc]
  rw[e1,e2,e3];simp
theorem Ep{m:List α}{k:Nat}(hk:k<m.length)(x:α)(tail:List AV)(hn:(c x).all bo=true){H:AH}{b g:Nat}(h:bJ H b=some (g,(m.map c).flatten++tail))(e:List AV)(l:List (List AV)):
    (St.mk e l H).store (.gp b g (k*sz)) (c x)=some ⟨e,l,H.set b (some (g,((m.set k x).map c).flatten++tail))⟩:=by
  have hl:(k*sz)+(c x).length≤((m.map c).flatten++tail).length:=by
    obtain⟨h1,h2⟩:=ko hc hk tail
    rw[h1];simp only[List.length_append,h2,hc];omega
  simp only[St.store,h,Option.bind_some,if_true]
  rw[if_pos hl,Hl hc hk x tail]
  simp[hn]
theorem uJ{m:List α}{i:Nat}(hi:i≤m.length)(z:α)(tail:List AV)(hn:(c z).all bo=true){H:AH}{b g:Nat}(h:bJ H b=some (g,(m.map c).flatten++tail))(e:List AV)(l:List (List AV)):
    (St.mk e l H).store (.gp b g (i*sz)) (List.replicate (m.length-i) (c z)).flatten=some ⟨e,l,H.set b (some (g,((m.take i).map c).flatten++((List.replicate (m.length-i) (c z)).flatten++tail)))⟩:=by
  have e1:(m.map c).flatten++tail=((m.take i).map c).flatten++(((m.drop i).map c).flatten++tail):=by
    conv=>lhs;rw[←List.take_append_drop i m]
    rw[List.map_append,List.flatten_append,List.append_assoc]
  have h2:((m.take i).map c).flatten.length=i*sz:=by rw[fy (fun x _=>hc x),List.length_take,Nat.min_eq_left hi]
  have h3:((m.drop i).map c).flatten.length=(m.length-i)*sz:=by rw[fy (fun x _=>hc x),List.length_drop]
  have h4:(List.replicate (m.length-i) (c z)).flatten.length=(m.length-i)*sz:=by
    have:=vu (xs:=List.replicate (m.length-i) (c z)) (sz:=sz) (fun l hl=>by rw[(List.mem_replicate.1 hl).2];exact hc z)
    simpa using this
  have h5:(List.replicate (m.length-i) (c z)).flatten.all bo=true:=rO (fun x hx=>by rw[(List.mem_replicate.1 hx).2];exact hn)
  simp only[St.store,h,Option.bind_some,if_true]
  rw[e1,if_pos (by simp only[List.length_append,h2,h3,h4];omega),if_pos h5]
  have:=Ck (pre:=((m.take i).map c).flatten) (cs:=((m.drop i).map c).flatten) (post:=tail) (vs:=(List.replicate (m.length-i) (c z)).flatten) (off:=0) (by omega)
  simp only[h2,Nat.add_zero]at this
  rw[this]
  have e3:cB ((m.drop i).map c).flatten 0 (List.replicate (m.length-i) (c z)).flatten=(List.replicate (m.length-i) (c z)).flatten:=by simp only[cB,List.take_zero,List.nil_append,Nat.zero_add,h4];rw[List.drop_of_length_le (by omega),List.append_nil]
  rw[e3]
end
theorem Kw{Γ:cj}(gl:Bool)(s:St)(sz:Nat)(z:List AV)(x:X):step Γ gl s (.clr sz z x)=.Fs (vT s sz z (s.eval Γ x)):=rfl
theorem zo(s:St){b g len cap sz:Nat}{ex:Bool}{i:Nat}(h1:i≤len)(h2:len≤cap):tS (.sl sz) s (.gs b g 0 len cap sz ex) (.int .i64 i)=.val (.gs b g (i*sz) (len-i) (cap-i) sz ex) s:=by
  have e:kE (.int .i64 (i:Int))=some i:=by simp[kE,Fo]
  simp[tS,e,jn,AR.iH,h1,h2]
theorem Eb(s:St){b g len cap sz:Nat}{ex:Bool}{i:Nat}(h2:i≤cap):u0 (.sl sz) s (.gs b g 0 len cap sz ex) (.int .i64 i)=.val (.gs b g 0 i cap sz ex) s:=by
  have e:kE (.int .i64 (i:Int))=some i:=by simp[kE,Fo]
  simp[u0,e,jn,AR.iH,h2]
end Go.AM
namespace Go.AM
theorem HK(k k':IntKind)(a:Int){b:Int}(h:0≤b):∃x,dY .shr .num (.int k a) (.int k' b)=some (.int k x):=⟨_,by simp only[dY];rw[if_pos h]⟩
theorem NS(k:IntKind)(a b:Int):∃x,dY .xor .num (.int k a) (.int k b)=some (.int k x):=⟨_,by simp only[dY,if_true,iC];rfl⟩
theorem BO(a:Int){m:Nat}(hm:m<4611686018427387904):∃x,dY .and .num (.int .i64 a) (.int .i64 (m:Int))=some (.int .i64 x)∧0≤x∧x≤m:=by
  have e:(BitVec.ofInt 64 (m:Int)).toNat=m:=by
    rw[BitVec.ofInt_natCast,BitVec.toNat_ofNat,Nat.mod_eq_of_lt (by omega)]
  have h1:(BitVec.ofInt 64 a &&& BitVec.ofInt 64 (m:Int)).toNat≤m:=by
    rw[BitVec.toNat_and,e];exact Nat.and_le_right
  refine⟨((BitVec.ofInt 64 a &&& BitVec.ofInt 64 (m:Int)).toNat:Int),?_,by omega,by exact_mod_cast h1⟩
  obtain⟨d,hd⟩:∃d,d=(BitVec.ofInt 64 a &&& BitVec.ofInt 64 (m:Int)).toNat:=⟨_,rfl⟩
  rw[←hd]at h1 ⊢
  have hw:IntKind.i64.wrap (d:Int)=(d:Int):=iv (by omega) (by omega)
  have:dY .and .num (.int .i64 a) (.int .i64 (m:Int))=some (.int .i64 (IntKind.i64.wrap (((BitVec.ofInt 64 a &&& BitVec.ofInt 64 (m:Int)).toNat:Nat):Int))):=by simp only[dY,if_true,iC,IntKind.bits];rfl
  rw[this,←hd,hw]
theorem K3{Γ:cj}(gl:Bool)(s:St)(k:IntKind)(x:X):step Γ gl s (.cvi k x)=(match s.eval Γ x with|.int _ n=>.val (.int k (k.wrap n)) s|_=>.stuck):=rfl
def nc(H:AH)(b:Nat)(bs:List Int):Prop:=∃i h:Int,0≤i∧bJ H b=some (0,[.vs false 1 false (bs.map fun n=>[.int .u8 n]),.int .i64 i,.int .i64 h])
theorem vy{H:AH}:∀{az:List AV} {cs:List CD} {fp:List Nat},cs.all CD.flat=true→aO H az cs fp→az=cs.map (CD.av false)
  | [],[],_,_,o=>rfl
  | a::az,d::ds,fp,h,⟨f1,f2,e,o1,o2⟩=>by
    simp only[List.all_cons,Bool.and_eq_true]at h
    rw[List.map_cons,←vy h.2 o2]
    congr 1
    cases o1 with
    | i=>simp[CD.fb]
    | b=>simp[CD.fc]
    | s=>simp[CD.k8]
    | nil=>simp[CD.flat]at h
    | gs=>simp[CD.flat]at h
theorem ve(l:List Int):(l.map fun n=>[CD.i .i64 n]).flatten.all CD.flat=true:=by
  rw[List.all_flatten,List.all_eq_true];intro y hy;obtain⟨x,_,rfl⟩:=List.mem_map.1 hy;rfl
theorem I1{H:AH}{w:AV}{fp:List Nat}{l:List Int}(o:bN H w (.sl 1 (l.map fun n=>[.i .i64 n])) fp){k:Nat}(hk:k<l.length):∃p,eJ 1 w (k:Int)=some p∧∀(e:List AV) (L:List (List AV)),(St.mk e L H).cells p 1=some [.int .i64 l[k]]:=by
  rcases o.jW with⟨rfl,e,rfl⟩|⟨b,g,cap,ex,az,tail,fp',rfl,rfl,hg,hsz,ht,hc,hown⟩
  · have:l=[]:=by simpa using e
    subst this;simp at hk
  have hz:=vy (ve l) hown
  have e2:(l.map fun n=>[CD.i .i64 n]).flatten.map (CD.av false)=(l.map fun n=>[AV.int .i64 n]).flatten:=by simp[List.map_flatten,Function.comp_def,CD.fb]
  rw[e2]at hz
  subst hz
  refine⟨.gp b g (0+k*1),nN (by simpa using hk),fun e L=>?_⟩
  rw[bk hg,Nat.zero_add]
  exact BK (c:=fun n:Int=>[AV.int .i64 n]) (sz:=1) (fun _=>rfl) hk tail
structure aR (H h':AH) (b:Nat) (bs:List Int):Prop where
  cur:nc h' b bs
  len:H.length≤h'.length
  fr:∀c,c<H.length→c≠b→h'[c]? = H[c]?
theorem aR.trans{H h1 h2:AH}{b:Nat}{bs:List Int}(a:aR H h1 b bs)(c:aR h1 h2 b bs):aR H h2 b bs:=
  ⟨c.cur,Nat.le_trans a.len c.len,fun x hx hb=>(c.fr x (Nat.lt_of_lt_of_le hx a.len) hb).trans (a.fr x hx hb)⟩
theorem nc.grow{H:AH}{b:Nat}{bs:List Int}(c:nc H b bs)(N:AH):nc (H++N) b bs:=by obtain⟨i,h,hi,hg⟩:=c;exact⟨i,h,hi,rJ hg N⟩
theorem nc.ext{H H':AH}{b:Nat}{bs:List Int}(c:nc H b bs)(e:bQ H H'):nc H' b bs:=by obtain⟨N,rfl⟩:=e.out;exact c.grow N
theorem aR.kO{H H':AH}{b:Nat}{bs:List Int}(c:nc H b bs)(e:bQ H H'):aR H H' b bs:=⟨c.ext e,e.len,fun x hx _=>e.fr x hx⟩
theorem aR.own{H H':AH}{b:Nat}{bs:List Int}(d:aR H H' b bs){a:AV}{cd:CD}{fp:List Nat}(o:bN H a cd fp)(hb:b∉fp):bN H' a cd fp:=o.frame fun c hc=>d.fr c (o.lt c hc) (fun e=>hb (e▸hc))
end Go.AM
namespace Go.AM
section
variable {P:Program} {Γ:cj}
theorem T.Oz{f:FuncId}{args:List AV}{h:AH}{R:List RD→Prop}(t:T P Γ f args h fun v h'=>∃vs rs fp,v=i9 vs∧gb h' vs rs fp∧(∀b∈fp,h.length≤b)∧bQ h h'∧R rs):
    T P Γ f args h fun v h'=>(∃rs,R rs∧v=i9 (rs.map (RD.av false)))∧h'=h:=by
  refine t.freeze ?_
  rintro v h' ⟨vs,rs,fp,rfl,o,hb,e,r⟩
  obtain⟨N,rfl⟩:=e.out
  exact⟨h,N,_,rfl,rfl,fun b g cs hb=>.inl hb,o.R7 hb,⟨rs,r,rfl⟩,rfl⟩
theorem dt(s:St)(a b c v:AV)(vs:List AV):s6 s 3 (.tup (a::b::c::v::vs))=.val v s:=rfl
end
end Go.AM
namespace Go.AM
section
variable {Γ:cj}
end
end Go.AM
namespace Go.AM
section
variable {Γ:cj}
end
end Go.AM
namespace Go.AM
theorem aO.focus{h:AH}:∀{as:List AV} {ds:List CD} {fp:List Nat},aO h as ds fp→fp.Nodup→∀(j:Nat) (hj:j<ds.length),∃a f,as[j]? = some a∧bN h a ds[j] f∧f.Nodup∧(∀c∈f,c∈fp)∧
    ∀(h':AH) (a':AV) (d':CD) (f':List Nat),bN h' a' d' f'→f'.Nodup→(∀c∈f',c∈f∨c∉fp)→(∀c∈fp,c∉f→h'[c]? = h[c]?)→
      ∃fp',aO h' (as.set j a') (ds.set j d') fp'∧fp'.Nodup∧(∀c∈fp',c∈fp∨c∈f')∧(∀c∈fp',c∈f→c∈f')
  | [],[],_,_,_,j,hj=>by simp at hj
  | a::as,d::ds,fp,⟨f1,f2,e,o1,o2⟩,nd,j,hj=>by
    subst e
    obtain⟨n1,n2,n3⟩:=List.nodup_append.1 nd
    cases j with
    | zero=>
      refine⟨a,f1,rfl,o1,n1,fun c hc=>List.mem_append_left _ hc,fun h' a' d' f' o' nd' hf' fr=>?_⟩
      have hdis:∀c∈f',c∉f2:=fun c hc h2=>by
        rcases hf' c hc with g|g
        · exact n3 c g c h2 rfl
        · exact g (List.mem_append_right _ h2)
      refine⟨f'++f2,⟨f',f2,rfl,o',aO.frame o2 fun c hc=>fr c (List.mem_append_right _ hc) (fun h1=>n3 c h1 c hc rfl)⟩,List.nodup_append.2 ⟨nd',n2,fun x hx y hy e=>hdis x hx (e▸hy)⟩,fun c hc=>?_,fun c hc hcf=>?_⟩
      · rcases List.mem_append.1 hc with g|g
        · exact .inr g
        · exact .inl (List.mem_append_right _ g)
      · rcases List.mem_append.1 hc with g|g
        · exact g
        · exact absurd rfl (n3 c hcf c g)
    | succ j=>
      obtain⟨a0,f,g1,g2,g3,g4,g5⟩:=aO.focus o2 n2 j (by simpa using hj)
      refine⟨a0,f,by simpa using g1,by simpa using g2,g3,fun c hc=>List.mem_append_right _ (g4 c hc),fun h' a' d' f' o' nd' hf' fr=>?_⟩
      obtain⟨fp',q1,q2,q3,q4⟩:=g5 h' a' d' f' o' nd' (fun c hc=>(hf' c hc).imp id fun hn hm=>hn (List.mem_append_right _ hm)) (fun c hc hcf=>fr c (List.mem_append_right _ hc) hcf)
      have hdis:∀c∈f1,c∉fp':=fun c hc hm=>by
        rcases q3 c hm with g|g
        · exact n3 c hc c g rfl
        · rcases hf' c g with g'|g'
          · exact n3 c hc c (g4 c g') rfl
          · exact g' (List.mem_append_left _ hc)
      refine⟨f1++fp',⟨f1,fp',rfl,o1.frame fun c hc=>fr c (List.mem_append_left _ hc) (fun hm=>n3 c hc c (g4 c hm) rfl),q1⟩,List.nodup_append.2 ⟨n1,q2,fun x hx y hy e=>hdis x hx (e▸hy)⟩,fun c hc=>?_,fun c hc hcf=>?_⟩
      · rcases List.mem_append.1 hc with g|g
        · exact .inl (List.mem_append_left _ g)
        · exact(q3 c g).imp (List.mem_append_right _) id
      · rcases List.mem_append.1 hc with g|g
        · exact absurd rfl (n3 c g c (g4 c hcf))
        · exact q4 c g hcf
  | [],_::_,_,o,_,_,_=>o.elim
  | _::_,[],_,o,_,_,_=>o.elim
theorem uW{α:Type}{sz:Nat}:∀{xs:List (List α)},(∀l∈xs,l.length=sz)→∀{k off:Nat} (hk:k<xs.length),off<sz→∀d:α,
    xs.flatten.set (k*sz+off) d=(xs.set k (xs[k].set off d)).flatten∧xs.flatten[k*sz+off]? = xs[k][off]?∧k*sz+off<xs.flatten.length
  | [],_,k,off,hk,_,_=>by simp at hk
  | x::xs,hx,0,off,hk,ho,d=>by
    have hl:x.length=sz:=hx x (by simp)
    refine⟨?_,?_,?_⟩
    · simp only[Nat.zero_mul,Nat.zero_add,List.flatten_cons,List.set_cons_zero,List.getElem_cons_zero]
      rw[List.set_append_left _ _ (by omega)]
    · simp only[Nat.zero_mul,Nat.zero_add,List.flatten_cons,List.getElem_cons_zero]
      rw[List.getElem?_append_left (by omega)]
    · simp;omega
  | x::xs,hx,k+1,off,hk,ho,d=>by
    have hl:x.length=sz:=hx x (by simp)
    obtain⟨h1,h2,h3⟩:=uW (xs:=xs) (fun l h=>hx l (by simp[h])) (k:=k) (off:=off) (by simpa using hk) ho d
    have e:(k+1)*sz+off=x.length+(k*sz+off):=by rw[Nat.add_mul];omega
    refine⟨?_,?_,?_⟩
    · simp only[List.flatten_cons,List.set_cons_succ,List.getElem_cons_succ]
      rw[e,List.set_append_right _ _ (by omega),Nat.add_sub_cancel_left,h1]
    · simp only[List.flatten_cons,List.getElem_cons_succ]
      rw[e,List.getElem?_append_right (by omega),Nat.add_sub_cancel_left,h2]
    · simp only[List.flatten_cons,List.length_append];omega
theorem bN.lens{H:AH}{w:AV}{sz:Nat}{xs:List (List CD)}{fp:List Nat}(o:bN H w (.sl sz xs) fp)(nd:fp.Nodup){k off:Nat}(hk:k<xs.length)(ho:off<sz)(hl:off<xs[k].length):
    ∃b g a f,eJ sz w (k:Int)=some (.gp b g (k*sz))∧b<H.length∧b∈fp∧(∀(e:List AV) (L:List (List AV)),(St.mk e L H).cells (.gp b g (k*sz+off)) 1=some [a])∧bN H a (xs[k][off]) f∧f.Nodup∧(∀c∈f,c∈fp)∧b∉f∧
      ∀(H':AH) (a':AV) (d':CD) (f':List Nat),bN H' a' d' f'→f'.Nodup→(∀c∈f',c∈f∨c∉fp)→(∀c∈fp,c∉f→H'[c]? = H[c]?)→
        ∃H'' fp',(∀(e:List AV) (L:List (List AV)),(St.mk e L H').store (.gp b g (k*sz+off)) [a']=some ⟨e,L,H''⟩)∧bN H'' w (.sl sz (xs.set k (xs[k].set off d'))) fp'∧fp'.Nodup∧(∀c∈fp',c∈fp∨c∈f')∧H''.length=H'.length∧∀c,c≠b→H''[c]? = H'[c]?:=by
  rcases o.jW with⟨rfl,e,rfl⟩|⟨b,g,cap,ex,az,tail,fp',rfl,rfl,hg,hsz,ht,hc,hown⟩
  · subst e;simp at hk
  obtain⟨nb,nd'⟩:=List.nodup_cons.1 nd
  have hf0:=uW hsz hk ho xs[k][off]
  have hj:k*sz+off<xs.flatten.length:=hf0.2.2
  have hjl:k*sz+off<az.length:=by rw[hown.len];exact hj
  obtain⟨a,f,h1,h2,h3,h4,h5⟩:=hown.focus nd' (k*sz+off) hj
  have hd:xs.flatten[k*sz+off]=xs[k][off]:=by
    have:=hf0.2.1
    rw[List.getElem?_eq_getElem hj,List.getElem?_eq_getElem hl]at this
    exact Option.some.inj this
  rw[hd]at h2
  have hbl:b<H.length:=c5 hg
  refine⟨b,g,a,f,by have:=nN (b:=b) (g:=g) (off:=0) (len:=xs.length) (cap:=cap) (sz:=sz) (ex:=ex) hk;rwa[Nat.zero_add]at this,hbl,by simp,fun e L=>?_,h2,h3,fun c hc=>List.mem_cons_of_mem _ (h4 c hc),fun hb=>nb (h4 b hb),?_⟩
  · rw[bk hg]
    unfold sub
    rw[if_pos (by simp;omega),List.drop_append_of_le_length (by omega)]
    rw[List.getElem?_eq_getElem hjl]at h1
    rw[List.drop_eq_getElem_cons hjl,Option.some.inj h1]
    rfl
  · intro H' a' d' f' o' nd2 hf' fr
    have hgb:bJ H' b=some (g,az++tail):=by
      have:=fr b (by simp) (fun hb=>nb (h4 b hb))
      unfold bJ at hg ⊢;rw[this];exact hg
    have hbl':b<H'.length:=c5 hgb
    have hbf':b∉f':=fun hb=>by
      rcases hf' b hb with q|q
      · exact nb (h4 b q)
      · exact q (by simp)
    have key:=h5 (H'.set b (some (g,az.set (k*sz+off) a'++tail))) a' d' f' (o'.frame fun c hc=>List.getElem?_set_ne (fun e:b=c=>hbf' (by rw[e];exact hc))) nd2 (fun c hc=>(hf' c hc).imp id fun hn hm=>hn (List.mem_cons_of_mem _ hm)) (fun c hc hcf=>by
      rw[List.getElem?_set_ne (fun e:b=c=>nb (by rw[e];exact hc))];exact fr c (List.mem_cons_of_mem _ hc) hcf)
    obtain⟨fq,q1,q2,q3,_⟩:=key
    have hbq:b∉fq:=fun hb=>by
      rcases q3 b hb with q|q
      · exact nb q
      · exact hbf' q
    refine⟨H'.set b (some (g,az.set (k*sz+off) a'++tail)),b::fq,fun e L=>?_,?_,List.nodup_cons.2 ⟨hbq,q2⟩,fun c hc=>?_,by simp,fun c hcb=>List.getElem?_set_ne (Ne.symm hcb)⟩
    · simp only[St.store,hgb,Option.bind_some,if_true,List.length_cons,List.length_nil,List.all_cons,List.all_nil,o'.bo,Bool.and_self]
      rw[if_pos (by simp;omega)]
      congr 3
      simp only[cB,List.length_cons,List.length_nil]
      rw[List.take_append_of_le_length (by omega),List.drop_append_of_le_length (by omega),←List.append_assoc,List.set_eq_take_append_cons_drop,if_pos hjl]
      simp
    · have hset:=(uW hsz hk ho d').1
      rw[hset]at q1
      have:=bN.sl_mk (h:=H'.set b (some (g,az.set (k*sz+off) a'++tail))) (b:=b) (g:=g) (cap:=cap) (sz:=sz) (ex:=ex) («as»:=az.set (k*sz+off) a') (tail:=tail) (xs:=xs.set k (xs[k].set off d')) (fp:=fq)
        (by simp[bJ,hbl']) (fun y hy=>by
          rcases List.mem_or_eq_of_mem_set hy with g|g
          · exact hsz y g
          · rw[g,List.length_set];exact hsz _ (List.getElem_mem hk)) ht (by simpa using hc) q1
      simpa using this
    · rcases List.mem_cons.1 hc with rfl|hc
      · exact .inl (by simp)
      · exact(q3 c hc).imp (List.mem_cons_of_mem _) id
end Go.AM
namespace Go.AM
theorem cC{e:List AV}{L:List (List AV)}{h:AH}{i off n:Nat}{z:List AV}(hi:L[i]? = some z):(St.mk e L h).cells (.lp i off) n=sub z off n:=by
  simp only[St.cells,hi,Option.bind_some]
theorem lI{e:List AV}{L:List (List AV)}{h:AH}{i off:Nat}{z:List AV}{v:AV}(hi:L[i]? = some z)(ho:off+1≤z.length)(hv:bK v=true):(St.mk e L h).store (.lp i off) [v]=some ⟨e,L.set i (cB z off [v]),h⟩:=by
  simp[St.store,hi,ho,hv]
theorem lN{e:List AV}{L:List (List AV)}{h:AH}{i:Nat}{z vs:List AV}(hi:L[i]? = some z)(ho:vs.length=z.length)(hv:vs.all bK=true):(St.mk e L h).store (.lp i 0) vs=some ⟨e,L.set i vs,h⟩:=by
  simp only[St.store,hi,Option.bind_some,Nat.zero_add]
  rw[if_pos (by omega),hv,if_pos rfl]
  congr 3
  simp[cB,ho]
theorem fo{L:List (List AV)}{i:Nat}{z:List AV}(hi:L[i]? = some z)(x:List (List AV)):(L++x)[i]? = some z:=by
  rw[List.getElem?_append_left (aG hi)];exact hi
theorem jh{L:List (List AV)}{i j:Nat}{z y:List AV}(hi:L[i]? = some z)(hij:j≠i):(L.set j y)[i]? = some z:=by
  rw[List.getElem?_set_ne hij];exact hi
theorem jc{L:List (List AV)}{i:Nat}{z y:List AV}(hi:L[i]? = some z):(L.set i y)[i]? = some y:=by
  rw[List.getElem?_set_self (aG hi)]
theorem qN(L:List (List AV))(x:List AV):(L++[x])[L.length]? = some x:=by simp
theorem bN.row{H:AH}{w:AV}{sz:Nat}{xs:List (List CD)}{fp:List Nat}(o:bN H w (.sl sz xs) fp)(nd:fp.Nodup){k:Nat}(hk:k<xs.length):
    ∃b g az f,eJ sz w (k:Int)=some (.gp b g (k*sz))∧b<H.length∧b∈fp∧(∀(e:List AV) (L:List (List AV)),(St.mk e L H).cells (.gp b g (k*sz)) sz=some az)∧
      (∀(e:List AV) (L:List (List AV)) (off n:Nat),off+n≤sz→(St.mk e L H).cells (.gp b g (k*sz+off)) n=sub az off n)∧aO H az xs[k] f∧f.Nodup∧(∀c∈f,c∈fp)∧az.length=sz:=by
  rcases o.jW with⟨rfl,e,rfl⟩|⟨b,g,cap,ex,az,tail,fp',rfl,rfl,hg,hsz,ht,hc,hown⟩
  · subst e;simp at hk
  obtain⟨nb,nd'⟩:=List.nodup_cons.1 nd
  have hfl:xs.flatten=(xs.take k).flatten++(xs[k]++(xs.drop (k+1)).flatten):=by
    rw[←List.flatten_cons,←List.drop_eq_getElem_cons hk,←List.flatten_append,List.take_append_drop]
  rw[hfl]at hown
  obtain⟨a1,a2,f1,f2,e1,e2,o1,o2⟩:=hown.split
  obtain⟨a3,a4,f3,f4,e3,e4,o3,o4⟩:=o2.split
  subst e1 e2 e3 e4
  have l1:a1.length=k*sz:=by
    rw[o1.len]
    have:∀(ys:List (List CD)),(∀l∈ys,l.length=sz)→ys.flatten.length=ys.length*sz:=fun ys=>by
      induction ys with
      | nil=>intro _;simp
      | cons y ys ih=>intro h;rw[List.flatten_cons,List.length_append,ih (fun l hl=>h l (by simp[hl])),h y (by simp),List.length_cons,Nat.add_mul];omega
    rw[this _ (fun l hl=>hsz l (List.mem_of_mem_take hl)),List.length_take,Nat.min_eq_left (by omega)]
  have l3:a3.length=sz:=by rw[o3.len];exact hsz _ (List.getElem_mem hk)
  have hcell:∀(e:List AV) (L:List (List AV)) (off n:Nat),off+n≤sz→(St.mk e L H).cells (.gp b g (k*sz+off)) n=sub a3 off n:=fun e L off n hn=>by
    rw[bk hg]
    unfold sub
    rw[if_pos (by simp;omega),if_pos (by omega)]
    congr 1
    rw[List.append_assoc,List.drop_append,List.drop_eq_nil_of_le (by omega),List.nil_append,l1,Nat.add_sub_cancel_left,List.append_assoc,List.drop_append_of_le_length (by omega),List.take_append_of_le_length (by rw[List.length_drop];omega)]
  obtain⟨n1,n2,n3⟩:=List.nodup_append.1 nd'
  obtain⟨n4,n5,n6⟩:=List.nodup_append.1 n2
  refine⟨b,g,a3,f3,by have:=nN (b:=b) (g:=g) (off:=0) (len:=xs.length) (cap:=cap) (sz:=sz) (ex:=ex) hk;rwa[Nat.zero_add]at this,c5 hg,by simp,fun e L=>?_,hcell,o3,n4,fun c hc=>by simp[hc],l3⟩
  have:=hcell e L 0 sz (by omega)
  rw[Nat.add_zero]at this
  rw[this];unfold sub;rw[if_pos (by omega),List.drop_zero,←l3,List.take_length]
end Go.AM
