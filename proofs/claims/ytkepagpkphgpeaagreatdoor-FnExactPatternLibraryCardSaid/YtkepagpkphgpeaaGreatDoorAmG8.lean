import Derived.Test.YtkepagpkphgpeaaGreatDoorAmG7
import Derived.Test.YtkepagpkphgpeaaGreatDoorAmG6
set_option linter.unusedVariables false
set_option linter.unusedSimpArgs false
namespace Go.AM
section
variable {P:Program} {Θ:gQ} {Γ:aZ}
def ik{α:Type}(p:α→Bool)(l:List α):Int:=match l.findIdx? p with|some i=>(i:Int)|none=>-1
theorem sE{α:Type}(p:α→Bool)(l:List α):(∃(k:Nat) (hk:k<l.length),ik p l=(k:Int)∧p l[k]=true∧l.find? p=some l[k])∨(ik p l = -1∧l.find? p=none∧∀x∈l,p x=false):=by
  unfold ik
  cases h:l.findIdx? p with
  | none=>
    rw[List.findIdx?_eq_none_iff]at h
    exact .inr ⟨rfl,by rw[List.find?_eq_none];intro x hx;simp[h x hx],fun x hx=>h x hx⟩
  | some i=>
    obtain⟨hi,h1,h2⟩:=List.findIdx?_eq_some_iff_getElem.1 h
    refine .inl ⟨i,hi,rfl,h1,?_⟩
    rw[List.find?_eq_some_iff_getElem]
    exact⟨h1,i,hi,rfl,fun j hj=>by simpa using h2 j hj⟩
theorem xK{α:Type}{p:α→Bool}{l:List α}{k:Nat}(hk:k<l.length)(h0:∀(i:Nat) (hi:i<l.length),i<k→p l[i]=false)(h1:p l[k]=true):ik p l=(k:Int):=by
  unfold ik
  rw[List.findIdx?_eq_some_iff_getElem.2 ⟨hk,h1,fun j hj=>by simp[h0 j (by omega) hj]⟩]
theorem uH{α:Type}{p:α→Bool}{l:List α}(h:∀(i:Nat) (hi:i<l.length),p l[i]=false):ik p l = -1:=by
  unfold ik
  rw[List.findIdx?_eq_none_iff.2]
  intro x hx
  obtain⟨i,hi,rfl⟩:=List.mem_iff_getElem.1 hx
  exact h i hi
theorem fg{α:Type}(cA:cn P Θ)(hm:P.follows .mixedOrders=true){f:FuncId}{sz:Nat}{agg:Bool}(hE:xg P Θ Γ f (mf sz agg) [.t 4] [u,u,u,u,u,u,u,u,u,u,u,u,u,u,u,u,u])
    {β:Bool} {l:List α} {c:α→List AV} (hb:l.length<1099511627776) (hx:∀x,Cz agg sz (c x)∧bF (IJ agg (c x))=true) {g:FuncId} {first caps:List AV} (hc:(first++caps).all bF=true) (p:α→Bool) {h:AH}
    (hp:∀x∈l,T P Γ g (first++([IJ agg (c x)]++caps)) h fun v h'=>v=.bool (p x)∧h'=h):
    T P Γ f [.vs β sz false (l.map c),.fn g first caps] h fun v h'=>v=.int .i64 (ik p l)∧h'=h:=by
  have L0:=cr β sz false l c
  generalize e0:AV.vs β sz false (l.map c)=a0 at *
  refine hE (ax cA hm [] _ _ _ ?_)
  unfold mf
  simp only[EV,EL,L0]
  refine bU cA hm [] (fun k:Nat=>k≤l.length∧∀(i:Nat) (hi:i<l.length),i<k→p l[i]=false) (fun k=>l.length-k)
    (fun k=>⟨[a0,.fn g first caps,.any,.any,.any,.any,.any,.int .i64 l.length,.int .i64 k,.any,.any,.any,.any,.any,.any,.any,.any,.any,.any],[],h⟩) 0 ⟨by omega,fun i hi h=>by omega⟩ ⟨by simp[cG,cI],rfl,rfl⟩ ?_
  rintro k ⟨hk,ht⟩
  simp only[EV,EL]
  refine aR (fun hlt=>?_) (fun hge=>?_)
  · have hlt:k<l.length:=by simpa using hlt
    have i0:=ct (β:=β) (sz:=sz) (ex:=false) (ce:=c) hlt
    rw[e0]at i0
    simp only[EV,EL,i0,yj (hx l[k]).1]
    refine an.val ?_ (hp _ (List.getElem_mem hlt)) ?_
    · simp only[List.all_append,List.all_cons,List.all_nil,Bool.and_true,Bool.and_eq_true]at hc ⊢
      exact⟨hc.1,(hx l[k]).2,hc.2⟩
    simp only[EV,EL]
    refine aR (fun hpt=>?_) (fun hpf=>?_)
    · simp only[EV,EL]
      exact⟨rfl,by rw[xK hlt ht hpt]⟩
    · simp only[EV,EL]
      refine⟨k+1,⟨hlt,fun i hi hik=>?_⟩,by omega,⟨?_,rfl,rfl⟩⟩
      · rcases Nat.lt_or_ge i k with h1|h1
        · exact ht i hi h1
        · have:i=k:=by omega
          subst this;exact hpf
      · rw[wN (by omega)]
        simp[cG,cI]
  · have hge:k=l.length:=by simp at hge;omega
    simp only[EV,EL]
    exact⟨rfl,by rw[uH (fun i hi=>ht i hi (by omega))]⟩
def tU(s:St)(sz len:Nat):Option (List AV)→AR|some cs=>if cs.all aK then .val (.gs s.heap.length 0 0 len len sz true) (s.push cs)else .stuck|none=>.stuck
theorem Bg(gl:Bool)(s:St)(sz len:Nat)(z:List AV)(ps:List (Nat×X)):step Γ gl s (.bsl sz len z ps)=tU s sz len (di (List.replicate len z).flatten (ps.map fun p=>(p.1*sz,sz,s.eval Γ p.2))):=by
  simp only[step,tU];cases di _ _<;>rfl
def mP(s:St)(sz bytes:Nat)(x:AV):Option (List AV)→Option Nat→Option Nat→AR
  | some ys,some n,some m=>.uP (kA s sz bytes x ys n m)
  | _,_,_=>.stuck
theorem AQ(gl:Bool)(s:St)(sz bytes:Nat)(z:List AV)(str:Bool)(x y:X):step Γ gl s (.app sz bytes z str x y)=mP s sz bytes (s.eval Γ x) (cB s sz str (s.eval Γ y)) (lenOf (s.eval Γ y)) (lenOf (s.eval Γ x)):=by
  simp only[step,mP];rfl
end
end Go.AM
namespace Go.AM
section
variable {P:Program} {Θ:gQ} {Γ:aZ}
def rT:List AV→Nat→List AV→Option (List AV)
  | z,0,[]=>some z
  | _::z,0,x::vs=>(rT z 0 vs).map (x :: ·)
  | a::z,n+1,vs=>(rT z n vs).map (a :: ·)
  | [],0,_::_=>none
  | [],_+1,_=>none
theorem kE:∀(z:List AV) (o:Nat) (vs z':List AV),rT z o vs=some z'→o+vs.length≤z.length∧z'=over z o vs
  | z,0,[],z',h=>by simp[rT]at h;subst h;simp[over]
  | a::z,0,x::vs,z',h=>by
    simp only[rT,Option.map_eq_some_iff]at h
    obtain⟨y,h1,rfl⟩:=h
    obtain⟨h2,rfl⟩:=kE z 0 vs y h1
    refine⟨by simp at h2 ⊢;omega,?_⟩
    simp[over]
  | a::z,n+1,vs,z',h=>by
    simp only[rT,Option.map_eq_some_iff]at h
    obtain⟨y,h1,rfl⟩:=h
    obtain⟨h2,rfl⟩:=kE z n vs y h1
    refine⟨by simp;omega,?_⟩
    simp[over,show n+1+vs.length=(n+vs.length)+1 by omega]
  | [],0,_::_,_,h=>by simp[rT]at h
  | [],_+1,_,_,h=>by simp[rT]at h
theorem FG(z:List AV):rT z 0 []=some z:=by cases z<;>rfl
theorem Fb(a x:AV)(z vs:List AV):rT (a::z) 0 (x::vs)=(rT z 0 vs).map (x :: ·):=rfl
theorem GP(a:AV)(z vs:List AV)(n:Nat):rT (a::z) (n+1) vs=(rT z n vs).map (a :: ·):=rfl
def Js(f:List AV→Option (List AV))(alt:Option (List AV)):Option (List AV)→Option (List AV)|some z=>f z|none=>alt
def kx(z:List AV)(off:Nat)(cs:List AV)(rest:List (Nat×Nat×AV)):Option (List AV):=if off+cs.length≤z.length then di (over z off cs) rest else none
def s6(z:List AV)(off size:Nat)(rest:List (Nat×Nat×AV)):Option (List AV)→Option (List AV)
  | some cs=>if cs.length=size then kx z off cs rest else none
  | none=>none
theorem fY(z:List AV):di z []=some z:=rfl
theorem F5(z:List AV)(off size:Nat)(v:AV)(rest:List (Nat×Nat×AV)):di z ((off,size,v)::rest)=s6 z off size rest (cellsOf v):=by
  simp only[di,s6,kx];cases cellsOf v<;>rfl
theorem Ef(z:List AV)(off size:Nat)(rest:List (Nat×Nat×AV))(cs:List AV):s6 z off size rest (some cs)=if cs.length=size then Js (fun z'=>di z' rest) (kx z off cs rest) (rT z off cs)else none:=by
  simp only[s6]
  split
  · cases h:rT z off cs with
    | none=>rfl
    | some z'=>
      obtain⟨h1,h2⟩:=kE _ _ _ _ h
      simp only[kx,if_pos h1,Js,h2]
  · rfl
theorem Ci(f:List AV→Option (List AV))(alt:Option (List AV))(z:List AV):Js f alt (some z)=f z:=rfl
theorem b8(gl:Bool)(s:St)(z:List AV)(ps:List (Nat×Nat×X)):step Γ gl s (.build z ps)=.cZ s ((di z (ps.map fun p=>(p.1,p.2.1,s.eval Γ p.2.2))).map .agg):=rfl
theorem gb{α β:Type}(f:α→β):List.map f []=[]:=rfl
theorem FE{α β:Type}(f:α→β)(x:α)(xs:List α):List.map f (x::xs)=f x::List.map f xs:=rfl
theorem CF(e:List AV)(l:List (List AV))(h:AH)(sz len:Nat)(cs:List AV)(hc:cs.all aK=true):tU ⟨e,l,h⟩ sz len (some cs)=.val (.gs h.length 0 0 len len sz true) ⟨e,l,h++[some (0,cs)]⟩:=by simp[tU,hc,St.push]
theorem ak(a b:Int):(a == b)=decide (a=b):=by by_cases h:a=b<;>simp[h]
def ss(p:AV)(off:Nat):AV:=match p with|.gp b g o=>.gp b g (o+off)|.ip β cs=>.ip β (cs.drop off)|x=>x
structure Ptr (H:AH) (p:AV) (cs:List AV):Prop where
  nil:isNil p=some false
  out:bF p=true
  n1:bW p=true
  fld:∀off,jx off p=some (ss p off)
  rd:∀(e:List AV) (l:List (List AV)) (off n:Nat),off+(n+1)≤cs.length→(St.mk e l H).cells (ss p off) (n+1)=sub cs off (n+1)
  rd0:∀(e:List AV) (l:List (List AV)) (n:Nat),n+1≤cs.length→(St.mk e l H).cells p (n+1)=sub cs 0 (n+1)
theorem Ptr.ip(H:AH)(β:Bool)(cs:List AV):Ptr H (.ip β cs) cs:=by
  refine⟨rfl,rfl,rfl,fun _=>rfl,fun e l off n hn=>?_,fun e l n hn=>rfl⟩
  simp only[ss,St.cells,sub,Nat.zero_add,List.length_drop,List.drop_zero]
  rw[if_pos (by omega),if_pos hn]
theorem Ptr.gp{H:AH}{b g o:Nat}{cells cs:List AV}(h:aS H b=some (g,cells))(hc:∀n,n≤cs.length→∀off,off+n≤cs.length→sub cells (o+off) n=sub cs off n):Ptr H (.gp b g o) cs:=by
  refine⟨rfl,rfl,rfl,fun _=>rfl,fun e l off n hn=>?_,fun e l n hn=>?_⟩
  · simp only[ss,St.cells,h,Option.bind_some,if_true];exact hc _ (by omega) off hn
  · simp only[St.cells,h,Option.bind_some,if_true];simpa using hc _ hn 0 (by omega)
theorem Ptr.J8{H:AH}{b g:Nat}{cs:List AV}(h:aS H b=some (g,cs)):Ptr H (.gp b g 0) cs:=Ptr.gp h (fun n _ off _=>by rw[Nat.zero_add])
def Df(s:St)(v:AV):Option Bool→AR|some false=>.val v s|_=>.stuck
theorem rj(gl:Bool)(s:St)(x:X):step Γ gl s (.nilchk x)=Df s (s.eval Γ x) (isNil (s.eval Γ x)):=by
  simp only[step,Df];split<;>simp_all
theorem AS(s:St)(v:AV):Df s v (some false)=.val v s:=rfl
theorem qZ(β:Bool)(cs:List AV):isNil (.ip β cs)=some false:=rfl
theorem qy(b g o:Nat):isNil (.gp b g o)=some false:=rfl
theorem qU(i o:Nat):isNil (.lp i o)=some false:=rfl
theorem zA:bg .eql .nilp .nilp .nilp=some (.bool true):=rfl
theorem AP(β:Bool)(cs:List AV):bg .eql .nilp (.ip β cs) .nilp=some (.bool false):=rfl
theorem AA(b g o:Nat):bg .eql .nilp (.gp b g o) .nilp=some (.bool false):=rfl
theorem AY:bg .neq .nilp .nilp .nilp=some (.bool false):=rfl
theorem Aw(β:Bool)(cs:List AV):bg .neq .nilp (.ip β cs) .nilp=some (.bool true):=rfl
theorem Ag(b g o:Nat):bg .neq .nilp (.gp b g o) .nilp=some (.bool true):=rfl
theorem Ah(β:Bool)(cs:List AV):cellsOf (.ip β cs)=some [.ip β cs]:=rfl
theorem A0(b g o:Nat):cellsOf (.gp b g o)=some [.gp b g o]:=rfl
theorem zJ(β:Bool)(sz:Nat)(ex:Bool)(xs:List (List AV)):bC (.vs β sz ex xs)=true:=rfl
theorem AL(β:Bool)(cs:List AV):bC (.ip β cs)=true:=rfl
theorem Be(b g o:Nat):bC (.gp b g o)=true:=rfl
theorem Ad:bC .nilp=true:=rfl
theorem An:bC .nils=true:=rfl
end
theorem EF:type_of% (And.intro @FG (And.intro @Fb (And.intro @GP (And.intro @fY (And.intro @F5 (And.intro @Ef (And.intro @Ci (And.intro @b8 (And.intro @gb (And.intro @FE (And.intro @Bg (((((And.intro @rj (And.intro @AS (And.intro @qZ (And.intro @qy (And.intro @qU (And.intro @zA (And.intro @AP (And.intro @AA (And.intro @AY (And.intro @Aw (And.intro @Ag (And.intro @Ah (And.intro @A0 (And.intro @zJ (And.intro @AL (And.intro @Be (And.intro @Ad (@An))))))))))))))))))))))))))))))))):=And.intro @FG (And.intro @Fb (And.intro @GP (And.intro @fY (And.intro @F5 (And.intro @Ef (And.intro @Ci (And.intro @b8 (And.intro @gb (And.intro @FE (And.intro @Bg (((((And.intro @rj (And.intro @AS (And.intro @qZ (And.intro @qy (And.intro @qU (And.intro @zA (And.intro @AP (And.intro @AA (And.intro @AY (And.intro @Aw (And.intro @Ag (And.intro @Ah (And.intro @A0 (And.intro @zJ (And.intro @AL (And.intro @Be (And.intro @Ad (@An))))))))))))))))))))))))))))))))
theorem EZ:type_of% (And.intro EV (And.intro EL (And.intro EB (And.intro EF (And.intro @Bool.false_eq_true (And.intro @Bool.not_true (And.intro @Bool.not_false (And.intro @if_true.{1} (And.intro @if_false.{1} (@Option.bind_some.{0,0})))))))))):=And.intro EV (And.intro EL (And.intro EB (And.intro EF (And.intro @Bool.false_eq_true (And.intro @Bool.not_true (And.intro @Bool.not_false (And.intro @if_true.{1} (And.intro @if_false.{1} (@Option.bind_some.{0,0})))))))))
end Go.AM
namespace Go.AM
theorem JK(e:List AV)(L zs:List (List AV))(a b d e z:List AV)(h:AH)(off n0:Nat):(St.mk e (L++a::b::d::e::z::zs) h).cells (.lp (L.length+4) off) n0=sub z off n0:=bX (i:=4) rfl
theorem J6(e:List AV)(L zs:List (List AV))(a b d e z:List AV)(h:AH)(off:Nat)(vs:List AV):(St.mk e (L++a::b::d::e::z::zs) h).store (.lp (L.length+4) off) vs=gz (fun z'=>⟨e,L++a::b::d::e::z'::zs,h⟩) (ee ⟨e,L++a::b::d::e::z::zs,h⟩ (.lp (L.length+4) off) vs) (ju z off vs):=
  cL fun _ hs=>bY (i:=4) rfl hs
theorem Kd(L:List (List AV))(a b d e:List AV):(L++[a,b,d,e]).length=L.length+4:=by simp
theorem JS(L:List (List AV))(a b d e z:List AV):(L++[a,b,d,e])++[z]=L++[a,b,d,e,z]:=by simp
theorem J3(e:List AV)(L zs:List (List AV))(a b d e f z:List AV)(h:AH)(off n0:Nat):(St.mk e (L++a::b::d::e::f::z::zs) h).cells (.lp (L.length+5) off) n0=sub z off n0:=bX (i:=5) rfl
theorem Kj(e:List AV)(L zs:List (List AV))(a b d e f z:List AV)(h:AH)(off:Nat)(vs:List AV):(St.mk e (L++a::b::d::e::f::z::zs) h).store (.lp (L.length+5) off) vs=gz (fun z'=>⟨e,L++a::b::d::e::f::z'::zs,h⟩) (ee ⟨e,L++a::b::d::e::f::z::zs,h⟩ (.lp (L.length+5) off) vs) (ju z off vs):=
  cL fun _ hs=>bY (i:=5) rfl hs
theorem KB(L:List (List AV))(a b d e f:List AV):(L++[a,b,d,e,f]).length=L.length+5:=by simp
theorem Kq(L:List (List AV))(a b d e f z:List AV):(L++[a,b,d,e,f])++[z]=L++[a,b,d,e,f,z]:=by simp
theorem Kl(e:List AV)(L zs:List (List AV))(a b d e f g z:List AV)(h:AH)(off n0:Nat):(St.mk e (L++a::b::d::e::f::g::z::zs) h).cells (.lp (L.length+6) off) n0=sub z off n0:=bX (i:=6) rfl
theorem JR(e:List AV)(L zs:List (List AV))(a b d e f g z:List AV)(h:AH)(off:Nat)(vs:List AV):(St.mk e (L++a::b::d::e::f::g::z::zs) h).store (.lp (L.length+6) off) vs=gz (fun z'=>⟨e,L++a::b::d::e::f::g::z'::zs,h⟩) (ee ⟨e,L++a::b::d::e::f::g::z::zs,h⟩ (.lp (L.length+6) off) vs) (ju z off vs):=
  cL fun _ hs=>bY (i:=6) rfl hs
theorem Ko(L:List (List AV))(a b d e f g:List AV):(L++[a,b,d,e,f,g]).length=L.length+6:=by simp
theorem Kk(L:List (List AV))(a b d e f g z:List AV):(L++[a,b,d,e,f,g])++[z]=L++[a,b,d,e,f,g,z]:=by simp
theorem Kp(e:List AV)(L zs:List (List AV))(a b d e f g i z:List AV)(h:AH)(off n0:Nat):(St.mk e (L++a::b::d::e::f::g::i::z::zs) h).cells (.lp (L.length+7) off) n0=sub z off n0:=bX (i:=7) rfl
theorem J7(e:List AV)(L zs:List (List AV))(a b d e f g i z:List AV)(h:AH)(off:Nat)(vs:List AV):(St.mk e (L++a::b::d::e::f::g::i::z::zs) h).store (.lp (L.length+7) off) vs=gz (fun z'=>⟨e,L++a::b::d::e::f::g::i::z'::zs,h⟩) (ee ⟨e,L++a::b::d::e::f::g::i::z::zs,h⟩ (.lp (L.length+7) off) vs) (ju z off vs):=
  cL fun _ hs=>bY (i:=7) rfl hs
theorem JZ(L:List (List AV))(a b d e f g i:List AV):(L++[a,b,d,e,f,g,i]).length=L.length+7:=by simp
theorem JO(L:List (List AV))(a b d e f g i z:List AV):(L++[a,b,d,e,f,g,i])++[z]=L++[a,b,d,e,f,g,i,z]:=by simp
theorem KJ(e:List AV)(L zs:List (List AV))(a b d e f g i j z:List AV)(h:AH)(off n0:Nat):(St.mk e (L++a::b::d::e::f::g::i::j::z::zs) h).cells (.lp (L.length+8) off) n0=sub z off n0:=bX (i:=8) rfl
theorem JW(e:List AV)(L zs:List (List AV))(a b d e f g i j z:List AV)(h:AH)(off:Nat)(vs:List AV):(St.mk e (L++a::b::d::e::f::g::i::j::z::zs) h).store (.lp (L.length+8) off) vs=gz (fun z'=>⟨e,L++a::b::d::e::f::g::i::j::z'::zs,h⟩) (ee ⟨e,L++a::b::d::e::f::g::i::j::z::zs,h⟩ (.lp (L.length+8) off) vs) (ju z off vs):=
  cL fun _ hs=>bY (i:=8) rfl hs
theorem JI(L:List (List AV))(a b d e f g i j:List AV):(L++[a,b,d,e,f,g,i,j]).length=L.length+8:=by simp
theorem Ks(L:List (List AV))(a b d e f g i j z:List AV):(L++[a,b,d,e,f,g,i,j])++[z]=L++[a,b,d,e,f,g,i,j,z]:=by simp
theorem JJ(e:List AV)(L zs:List (List AV))(a b d e f g i j k z:List AV)(h:AH)(off n0:Nat):(St.mk e (L++a::b::d::e::f::g::i::j::k::z::zs) h).cells (.lp (L.length+9) off) n0=sub z off n0:=bX (i:=9) rfl
theorem Ku(e:List AV)(L zs:List (List AV))(a b d e f g i j k z:List AV)(h:AH)(off:Nat)(vs:List AV):(St.mk e (L++a::b::d::e::f::g::i::j::k::z::zs) h).store (.lp (L.length+9) off) vs=gz (fun z'=>⟨e,L++a::b::d::e::f::g::i::j::k::z'::zs,h⟩) (ee ⟨e,L++a::b::d::e::f::g::i::j::k::z::zs,h⟩ (.lp (L.length+9) off) vs) (ju z off vs):=
  cL fun _ hs=>bY (i:=9) rfl hs
theorem J4(L:List (List AV))(a b d e f g i j k:List AV):(L++[a,b,d,e,f,g,i,j,k]).length=L.length+9:=by simp
theorem Kt(L:List (List AV))(a b d e f g i j k z:List AV):(L++[a,b,d,e,f,g,i,j,k])++[z]=L++[a,b,d,e,f,g,i,j,k,z]:=by simp
theorem Ew(e:List AV)(L zs:List (List AV))(a b d e f g i j k m z:List AV)(h:AH)(off n0:Nat):(St.mk e (L++a::b::d::e::f::g::i::j::k::m::z::zs) h).cells (.lp (L.length+10) off) n0=sub z off n0:=bX (i:=10) rfl
theorem FM(e:List AV)(L zs:List (List AV))(a b d e f g i j k m z:List AV)(h:AH)(off:Nat)(vs:List AV):(St.mk e (L++a::b::d::e::f::g::i::j::k::m::z::zs) h).store (.lp (L.length+10) off) vs=gz (fun z'=>⟨e,L++a::b::d::e::f::g::i::j::k::m::z'::zs,h⟩) (ee ⟨e,L++a::b::d::e::f::g::i::j::k::m::z::zs,h⟩ (.lp (L.length+10) off) vs) (ju z off vs):=
  cL fun _ hs=>bY (i:=10) rfl hs
theorem Gz(L:List (List AV))(a b d e f g i j k m:List AV):(L++[a,b,d,e,f,g,i,j,k,m]).length=L.length+10:=by simp
theorem H5(L:List (List AV))(a b d e f g i j k m z:List AV):(L++[a,b,d,e,f,g,i,j,k,m])++[z]=L++[a,b,d,e,f,g,i,j,k,m,z]:=by simp
theorem Fm(e:List AV)(L zs:List (List AV))(a b d e f g i j k m n z:List AV)(h:AH)(off n0:Nat):(St.mk e (L++a::b::d::e::f::g::i::j::k::m::n::z::zs) h).cells (.lp (L.length+11) off) n0=sub z off n0:=bX (i:=11) rfl
theorem Gr(e:List AV)(L zs:List (List AV))(a b d e f g i j k m n z:List AV)(h:AH)(off:Nat)(vs:List AV):(St.mk e (L++a::b::d::e::f::g::i::j::k::m::n::z::zs) h).store (.lp (L.length+11) off) vs=gz (fun z'=>⟨e,L++a::b::d::e::f::g::i::j::k::m::n::z'::zs,h⟩) (ee ⟨e,L++a::b::d::e::f::g::i::j::k::m::n::z::zs,h⟩ (.lp (L.length+11) off) vs) (ju z off vs):=
  cL fun _ hs=>bY (i:=11) rfl hs
theorem DG(L:List (List AV))(a b d e f g i j k m n:List AV):(L++[a,b,d,e,f,g,i,j,k,m,n]).length=L.length+11:=by simp
theorem HU(L:List (List AV))(a b d e f g i j k m n z:List AV):(L++[a,b,d,e,f,g,i,j,k,m,n])++[z]=L++[a,b,d,e,f,g,i,j,k,m,n,z]:=by simp
theorem Hc(e:List AV)(L zs:List (List AV))(a b d e f g i j k m n o z:List AV)(h:AH)(off n0:Nat):(St.mk e (L++a::b::d::e::f::g::i::j::k::m::n::o::z::zs) h).cells (.lp (L.length+12) off) n0=sub z off n0:=bX (i:=12) rfl
theorem GX(e:List AV)(L zs:List (List AV))(a b d e f g i j k m n o z:List AV)(h:AH)(off:Nat)(vs:List AV):(St.mk e (L++a::b::d::e::f::g::i::j::k::m::n::o::z::zs) h).store (.lp (L.length+12) off) vs=gz (fun z'=>⟨e,L++a::b::d::e::f::g::i::j::k::m::n::o::z'::zs,h⟩) (ee ⟨e,L++a::b::d::e::f::g::i::j::k::m::n::o::z::zs,h⟩ (.lp (L.length+12) off) vs) (ju z off vs):=
  cL fun _ hs=>bY (i:=12) rfl hs
theorem Ee(L:List (List AV))(a b d e f g i j k m n o:List AV):(L++[a,b,d,e,f,g,i,j,k,m,n,o]).length=L.length+12:=by simp
theorem He(L:List (List AV))(a b d e f g i j k m n o z:List AV):(L++[a,b,d,e,f,g,i,j,k,m,n,o])++[z]=L++[a,b,d,e,f,g,i,j,k,m,n,o,z]:=by simp
theorem FB(e:List AV)(L zs:List (List AV))(a b d e f g i j k m n o p z:List AV)(h:AH)(off n0:Nat):(St.mk e (L++a::b::d::e::f::g::i::j::k::m::n::o::p::z::zs) h).cells (.lp (L.length+13) off) n0=sub z off n0:=bX (i:=13) rfl
theorem Hy(e:List AV)(L zs:List (List AV))(a b d e f g i j k m n o p z:List AV)(h:AH)(off:Nat)(vs:List AV):(St.mk e (L++a::b::d::e::f::g::i::j::k::m::n::o::p::z::zs) h).store (.lp (L.length+13) off) vs=gz (fun z'=>⟨e,L++a::b::d::e::f::g::i::j::k::m::n::o::p::z'::zs,h⟩) (ee ⟨e,L++a::b::d::e::f::g::i::j::k::m::n::o::p::z::zs,h⟩ (.lp (L.length+13) off) vs) (ju z off vs):=
  cL fun _ hs=>bY (i:=13) rfl hs
theorem D8(L:List (List AV))(a b d e f g i j k m n o p:List AV):(L++[a,b,d,e,f,g,i,j,k,m,n,o,p]).length=L.length+13:=by simp
theorem HK(L:List (List AV))(a b d e f g i j k m n o p z:List AV):(L++[a,b,d,e,f,g,i,j,k,m,n,o,p])++[z]=L++[a,b,d,e,f,g,i,j,k,m,n,o,p,z]:=by simp
theorem aT:type_of% (And.intro @JK (And.intro @J6 (And.intro @Kd (And.intro @JS (And.intro @J3 (And.intro @Kj (And.intro @KB (And.intro @Kq (And.intro @Kl (And.intro @JR (And.intro @Ko (And.intro @Kk (And.intro @Kp (And.intro @J7 (And.intro @JZ (And.intro @JO (And.intro @KJ (And.intro @JW (And.intro @JI (And.intro @Ks (And.intro @JJ (And.intro @Ku (And.intro @J4 (And.intro @Kt (And.intro @Ew (And.intro @FM (And.intro @Gz (And.intro @H5 (And.intro @Fm (And.intro @Gr (And.intro @DG (And.intro @HU (And.intro @Hc (And.intro @GX (And.intro @Ee (And.intro @He (And.intro @FB (And.intro @Hy (And.intro @D8 (@HK)))))))))))))))))))))))))))))))))))))))):=(And.intro @JK (And.intro @J6 (And.intro @Kd (And.intro @JS (And.intro @J3 (And.intro @Kj (And.intro @KB (And.intro @Kq (And.intro @Kl (And.intro @JR (And.intro @Ko (And.intro @Kk (And.intro @Kp (And.intro @J7 (And.intro @JZ (And.intro @JO (And.intro @KJ (And.intro @JW (And.intro @JI (And.intro @Ks (And.intro @JJ (And.intro @Ku (And.intro @J4 (And.intro @Kt (And.intro @Ew (And.intro @FM (And.intro @Gz (And.intro @H5 (And.intro @Fm (And.intro @Gr (And.intro @DG (And.intro @HU (And.intro @Hc (And.intro @GX (And.intro @Ee (And.intro @He (And.intro @FB (And.intro @Hy (And.intro @D8 (@HK))))))))))))))))))))))))))))))))))))))))
end Go.AM
namespace Go.AM
end Go.AM
namespace Go.AM
theorem cw{h:AH}{b:Nat}{x:Nat×List AV}(e:aS h b=some x):b<h.length:=ar (bb e)
theorem nU{h:AH}{b:Nat}{x:Nat×List AV}(e:aS h b=some x)(N:AH):aS (h++N) b=some x:=by
  have:=bb e
  exact pV (by rw[List.getElem?_append_left (ar this)];exact this)
theorem lA{e e':List AV}{l l':List (List AV)}{h:AH}{a:AV}{n:Nat}{x:List AV}(ha:∀i o,a≠.lp i o)(hx:(St.mk e l h).cells a n=some x)(N:AH):(St.mk e' l' (h++N)).cells a n=some x:=by
  cases a<;>simp only[St.cells]at hx ⊢<;>try exact hx
  · exact absurd rfl (ha _ _)
  · rw[Option.bind_eq_some_iff]at hx
    obtain⟨y,h1,h2⟩:=hx
    rw[nU h1];exact h2
theorem yX{p:AV}(h:bW p=true)(off:Nat):∀i o,ss p off≠.lp i o:=by
  intro i o e;cases p<;>simp[ss,bW]at e h
theorem Ptr.grow{H:AH}{p:AV}{cs:List AV}(h:Ptr H p cs)(N:AH):Ptr (H++N) p cs:=by
  refine⟨h.nil,h.out,h.n1,h.fld,fun e l off n hn=>?_,fun e l n hn=>?_⟩
  · have h1:=h.rd e l off n hn
    have:sub cs off (n+1)=some ((cs.drop off).take (n+1)):=by simp only[sub];rw[if_pos hn]
    rw[this]at h1 ⊢
    exact lA (yX h.n1 off) h1 N
  · have h1:=h.rd0 e l n hn
    have:sub cs 0 (n+1)=some ((cs.drop 0).take (n+1)):=by simp only[sub];rw[if_pos (by omega)]
    rw[this]at h1 ⊢
    exact lA (by intro i o e;subst e;have:=h.n1;simp[bW]at this) h1 N
end Go.AM
namespace Go.AM
section
variable {P:Program} {Θ:gQ} {Γ:aZ}
theorem EJ(f:RS→Option AV):List.mapM f []=some []:=rfl
theorem G7(f:RS→Option AV)(x:RS)(xs:List RS):List.mapM f (x::xs)=(f x).bind fun y=>(List.mapM f xs).map (y :: ·):=by
  rw[List.mapM_cons];cases f x<;>simp
  cases List.mapM f xs<;>simp
theorem GV(vs:List AV):fO (.tup vs)=vs.all bF:=rfl
def qE(s:St)(i:Nat):AV→AR|.tup vs=>.cZ s vs[i]? | _=>.stuck
theorem sP(gl:Bool)(s:St)(x:X)(i:Nat):step Γ gl s (.extr x i)=qE s i (s.eval Γ x):=by
  simp only[step,qE];cases s.eval Γ x<;>rfl
theorem AF(s:St)(v:AV)(vs:List AV):qE s 0 (.tup (v::vs))=.val v s:=rfl
theorem Ab(s:St)(a v:AV)(vs:List AV):qE s 1 (.tup (a::v::vs))=.val v s:=rfl
theorem Bv(s:St)(a b v:AV)(vs:List AV):qE s 2 (.tup (a::b::v::vs))=.val v s:=rfl
end
theorem ER:type_of% (And.intro @EJ (And.intro @G7 (And.intro @GV (And.intro @sP (And.intro @AF (And.intro @Ab (@Bv))))))):=And.intro @EJ (And.intro @G7 (And.intro @GV (And.intro @sP (And.intro @AF (And.intro @Ab (@Bv))))))
end Go.AM
namespace Go.AM
def fj{α:Type}(f:α→Int→α)(c:α→Int):List α→Int→List α
  | [],_=>[]
  | x::r,k=>f x k::fj f c r (k+c x)
def aG{α:Type}(c:α→Int):List α→Int
  | []=>0
  | x::r=>c x+aG c r
theorem dM{α:Type}{f:α→Int→α}{c:α→Int}:∀{l:List α} {k:Int},(fj f c l k).length=l.length
  | [],_=>rfl
  | x::r,k=>by simp[fj,dM (l:=r)]
theorem kH{α:Type}(c:α→Int):∀(l m:List α),aG c (l++m)=aG c l+aG c m
  | [],m=>by simp[aG]
  | x::r,m=>by simp[aG,kH c r m];omega
theorem tJ{α:Type}(f:α→Int→α)(c:α→Int):∀(l m:List α) (k:Int),fj f c (l++m) k=fj f c l k++fj f c m (k+aG c l)
  | [],m,k=>by simp[fj,aG]
  | x::r,m,k=>by simp[fj,aG,tJ f c r m,Int.add_assoc]
theorem bt{α:Type}{c:α→Int}(h:∀x,0≤c x):∀(l:List α),0≤aG c l
  | []=>by simp[aG]
  | x::r=>by have:=h x;have:=bt h r;simp[aG];omega
theorem dK{α:Type}(c:α→Int){l:List α}{j:Nat}(h:j<l.length):aG c (l.take (j+1))=aG c (l.take j)+c l[j]:=by
  rw[List.take_succ_eq_append_getElem h,kH];simp[aG]
theorem gZ{α:Type}{c:α→Int}(h:∀x,0≤c x){l:List α}{j:Nat}(hj:j<l.length):aG c (l.take j)+c l[j]≤aG c l:=by
  have e:l=l.take (j+1)++l.drop (j+1):=(List.take_append_drop _ _).symm
  have h1:=dK c hj
  have h2:=bt h (l.drop (j+1))
  have h3:=congrArg (aG c) e
  rw[kH]at h3
  omega
theorem lq{α:Type}(f:α→Int→α)(c:α→Int){l:List α}{j:Nat}(h:j<l.length)(k:Int):fj f c (l.take (j+1)) k=fj f c (l.take j) k++[f l[j] (k+aG c (l.take j))]:=by
  rw[List.take_succ_eq_append_getElem h,tJ];simp[fj]
theorem kt{α:Type}(f:α→Int→α)(c:α→Int):∀{l:List α} {j:Nat} (h:j<l.length) (k:Int),(fj f c l k)[j]? = some (f l[j] (k+aG c (l.take j)))
  | x::r,0,_,k=>by simp[fj,aG]
  | x::r,j+1,h,k=>by
    have:=kt f c (l:=r) (j:=j) (by simpa using h) (k+c x)
    simp[fj,aG,this,Int.add_assoc]
def sN:List AV→Nat→List AV→Option (List AV)
  | z,0,[]=>some z
  | _::z,0,x::vs=>if aK x=true then (sN z 0 vs).map (x :: ·)else none
  | a::z,n+1,vs=>(sN z n vs).map (a :: ·)
  | [],0,_::_=>none
  | [],_+1,_=>none
theorem mq:∀(z:List AV) (o:Nat) (vs z':List AV),sN z o vs=some z'→o+vs.length≤z.length∧vs.all aK=true∧z'=over z o vs
  | z,0,[],z',h=>by simp[sN]at h;subst h;simp[over]
  | a::z,0,x::vs,z',h=>by
    simp only[sN]at h
    split at h
    · rename_i hx
      rw[Option.map_eq_some_iff]at h
      obtain⟨y,h1,rfl⟩:=h
      obtain⟨h2,h3,rfl⟩:=mq z 0 vs y h1
      refine⟨by simp at h2 ⊢;omega,by simp[hx,h3],?_⟩
      simp[over]
    · cases h
  | a::z,n+1,vs,z',h=>by
    simp only[sN,Option.map_eq_some_iff]at h
    obtain⟨y,h1,rfl⟩:=h
    obtain⟨h2,h3,rfl⟩:=mq z n vs y h1
    refine⟨by simp;omega,h3,?_⟩
    simp[over,show n+1+vs.length=(n+vs.length)+1 by omega]
  | [],0,_::_,_,h=>by simp[sN]at h
  | [],_+1,_,_,h=>by simp[sN]at h
theorem E9(z:List AV):sN z 0 []=some z:=by cases z<;>rfl
theorem H4(a x:AV)(z vs:List AV):sN (a::z) 0 (x::vs)=if aK x=true then (sN z 0 vs).map (x :: ·)else none:=rfl
theorem GL(a:AV)(z vs:List AV)(n:Nat):sN (a::z) (n+1) vs=(sN z n vs).map (a :: ·):=rfl
theorem wM{pre cs post vs:List AV}{off:Nat}(h:off+vs.length≤cs.length):over (pre++(cs++post)) (pre.length+off) vs=pre++(over cs off vs++post):=by
  simp only[over]
  rw[List.take_append,List.take_of_length_le (by omega),show pre.length+off-pre.length=off by omega,List.take_append_of_le_length (by omega)]
  rw[List.drop_append,List.drop_of_length_le (by omega),List.nil_append,show pre.length+off+vs.length-pre.length=off+vs.length by omega,List.drop_append_of_le_length h]
  simp
theorem xU{pre cs post:List AV}{off n:Nat}(h:off+n≤cs.length):sub (pre++(cs++post)) (pre.length+off) n=sub cs off n:=by
  simp only[sub]
  rw[if_pos (by simp;omega),if_pos h]
  rw[List.drop_append,List.drop_of_length_le (by omega),List.nil_append,show pre.length+off-pre.length=off by omega,List.drop_append_of_le_length (by omega),List.take_append_of_le_length (by simp;omega)]
def tt(cs post:List AV):List AV:=cs++post
theorem jZ{h1 h2:AH}{b g n0:Nat}{pre post:List AV}(hb:h1.length=b)(hn:pre.length=n0)(e:List AV)(l:List (List AV))(cs:List AV)(off:Nat)(vs:List AV):
    (St.mk e l (h1++some (g,pre++tt cs post)::h2)).store (.gp b g (n0+off)) vs=gz (fun cs'=>⟨e,l,h1++some (g,pre++tt cs' post)::h2⟩) (ee ⟨e,l,h1++some (g,pre++tt cs post)::h2⟩ (.gp b g (n0+off)) vs) (sN cs off vs):=by
  subst hb hn
  refine cL fun z hz=>?_
  obtain⟨h1',h2',rfl⟩:=mq _ _ _ _ hz
  unfold tt
  rw[uk (by simp;omega) h2',wM h1']
def KF(alt:Option (List AV)):Option (List AV)→Option (List AV)|some x=>some x|none=>alt
theorem Fs(alt:Option (List AV))(x:List AV):KF alt (some x)=some x:=rfl
theorem jP{h1 h2:AH}{b g n0:Nat}{pre post:List AV}(hb:h1.length=b)(hn:pre.length=n0)(e:List AV)(l:List (List AV))(cs:List AV)(off n:Nat):
    (St.mk e l (h1++some (g,pre++tt cs post)::h2)).cells (.gp b g (n0+off)) n=KF (sub (pre++tt cs post) (n0+off) n) (sub cs off n):=by
  subst hb hn
  have e1:(St.mk e l (h1++some (g,pre++tt cs post)::h2)).cells (.gp h1.length g (pre.length+off)) n=sub (pre++tt cs post) (pre.length+off) n:=by
    simp only[St.cells,lJ,Option.bind_some,if_true]
  rw[e1]
  cases hs:sub cs off n with
  | none=>rfl
  | some x=>
    have:off+n≤cs.length:=by simp only[sub]at hs;split at hs;assumption;cases hs
    unfold tt;rw[xU this,hs];rfl
theorem qe{H:AH}{b:Nat}{x:Nat×List AV}(h:aS H b=some x):∃h1 h2,H=h1++some x::h2∧h1.length=b:=by
  have hs:=bb h
  have hlt:=ar hs
  refine⟨H.take b,H.drop (b+1),?_,by simp;omega⟩
  conv=>lhs;rw[←List.take_append_drop b H,List.drop_eq_getElem_cons hlt]
  rw[List.getElem?_eq_getElem hlt]at hs
  injection hs with hs
  rw[hs]
theorem je{h1 h2:AH}{b:Nat}{x:Nat×List AV}(hb:h1.length=b):aS (h1++some x::h2) b=some x:=by subst hb;exact lJ _ _ _
theorem jr{h1 h2:AH}{b c:Nat}{x y:Option (Nat×List AV)}(hb:h1.length=b)(hc:c≠b):(h1++x::h2)[c]? = (h1++y::h2)[c]?:=by subst hb;exact CE hc
structure iF (H:AH) (b g:Nat) (tail:List AV) (fp:List Nat) {α:Type} (cd:α→List CD) (l m:List α) (H':AH) (as1 as2:List AV) (f1 f2:List Nat):Prop where
  len:H'.length=H.length
  fr:∀c,c≠b→c∉fp→H'[c]? = H[c]?
  blk:aS H' b=some (g,as1++(as2++tail))
  o1:aJ H' as1 (m.map cd).flatten f1
  o2:aJ H' as2 (l.map cd).flatten f2
  fps:fp=f1++f2
theorem iF.start{H:AH}{b g:Nat}{as tail:List AV}{fp:List Nat}{α:Type}{cd:α→List CD}{l:List α}(h1:aS H b=some (g,as++tail))(o:aJ H as (l.map cd).flatten fp):iF H b g tail fp cd l [] H [] as [] fp:=
  ⟨rfl,fun _ _ _=>rfl,by simpa using h1,rfl,o,rfl⟩
theorem iF.open{H:AH}{b g:Nat}{tail:List AV}{fp:List Nat}{α:Type}{cd:α→List CD}{x:α}{l m:List α}{H':AH}{as1 as2:List AV}{f1 f2:List Nat}(i:iF H b g tail fp cd (x::l) m H' as1 as2 f1 f2):
    ∃h1 h2 cs post fx fr,H'=h1++some (g,as1++(cs++(post++tail)))::h2∧h1.length=b∧as2=cs++post∧f2=fx++fr∧aJ H' cs (cd x) fx∧aJ H' post (l.map cd).flatten fr:=by
  have o2:=i.o2
  rw[List.map_cons,List.flatten_cons]at o2
  obtain⟨cs,post,fx,fr,rfl,rfl,q1,q2⟩:=o2.split
  have hb:=i.blk
  rw[List.append_assoc]at hb
  obtain⟨h1,h2,e1,e2⟩:=qe hb
  exact⟨h1,h2,cs,post,fx,fr,e1,e2,rfl,rfl,q1,q2⟩
theorem iF.next{H:AH}{b g:Nat}{tail:List AV}{fp:List Nat}{α:Type}{cd:α→List CD}{x y:α}{l m:List α}{H' H2:AH}{as1 cs cs' post:List AV}{f1 fx fr:List Nat}(nd:(b::fp).Nodup)
    (i:iF H b g tail fp cd (x::l) m H' as1 (cs++post) f1 (fx++fr)) (q2:aJ H' post (l.map cd).flatten fr)
    (hl:H2.length=H'.length) (hb:aS H2 b=some (g,as1++(cs'++(post++tail)))) (hf:∀c,c≠b→c∉fx→H2[c]? = H'[c]?) (o:aJ H2 cs' (cd y) fx):
    iF H b g tail fp cd l (m++[y]) H2 (as1++cs') post (f1++fx) fr:=by
  have hfp:=i.fps
  have ndf:=(List.nodup_cons.1 nd).2
  have hnb:∀c∈fp,c≠b:=fun c hc e=>(List.nodup_cons.1 nd).1 (e▸hc)
  rw[hfp]at ndf
  have hd:=List.nodup_append.1 ndf
  have hd2:=List.nodup_append.1 hd.2.1
  refine⟨hl.trans i.len,fun c hc hn=>?_,by rw[hb,List.append_assoc],?_,q2.frame fun c hc=>hf c (hnb c (by rw[hfp];simp[hc])) (fun e=>hd2.2.2 c e c hc rfl),by rw[hfp,List.append_assoc]⟩
  · rw[hf c hc (fun e=>hn (by rw[hfp];simp[e]))];exact i.fr c hc hn
  · rw[List.map_append,List.flatten_append]
    simp only[List.map_cons,List.map_nil,List.flatten_cons,List.flatten_nil,List.append_nil]
    exact aJ.append (i.o1.frame fun c hc=>hf c (hnb c (by rw[hfp];simp[hc])) (fun e=>hd.2.2 c hc c (by simp[e]) rfl)) o
theorem iF.done{H:AH}{b g cap sz n:Nat}{ex:Bool}{tail:List AV}{fp:List Nat}{α:Type}{cd:α→List CD}{m:List α}{H':AH}{as1 as2:List AV}{f1 f2:List Nat}(i:iF H b g tail fp cd [] m H' as1 as2 f1 f2)
    (hm:m.length=n) (h3:∀x,(cd x).length=sz) (ht:∀x∈tail,atom x) (hc:n≤cap∧(cap-n)*sz≤tail.length):H'.length=H.length∧(∀c,c∉b::fp→H'[c]? = H[c]?)∧bM H' (.gs b g 0 n cap sz ex) (.sl sz (m.map cd)) (b::fp):=by
  have o2:=i.o2
  simp only[List.map_nil,List.flatten_nil]at o2
  obtain⟨rfl,e⟩:=jA.1 o2
  subst e
  have hfp:=i.fps
  rw[List.append_nil]at hfp
  subst hfp
  refine⟨i.len,fun c hc=>i.fr c (fun e=>hc (by simp[e])) (fun e=>hc (by simp[e])),?_⟩
  have hb:=i.blk
  rw[List.nil_append]at hb
  have:=bM.sl_mk (xs:=m.map cd) (cap:=cap) (ex:=ex) hb (fun r hr=>by obtain⟨x,_,rfl⟩:=List.mem_map.1 hr;exact h3 x) ht (by simpa[hm]using hc) i.o1
  simpa[hm]using this
theorem kP{H H':AH}{b:Nat}{x:Nat×List AV}(h:aS H b=some x)(e:H'[b]? = H[b]?):aS H' b=some x:=by rw[dn e];exact h
theorem EM:type_of% (And.intro @E9 (And.intro @H4 (And.intro @GL (And.intro @Fs (@Nat.add_assoc))))):=And.intro @E9 (And.intro @H4 (And.intro @GL (And.intro @Fs (@Nat.add_assoc))))
end Go.AM
namespace Go.AM
theorem aJ.pick{H:AH}{a:AV}{d:CD}:∀{A B:List AV} {D E:List CD} {fp:List Nat},A.length=D.length→aJ H (A++a::B) (D++d::E) fp→fp.Nodup→
    ∃gi,bM H a d gi∧gi.Nodup∧(∀c∈gi,c∈fp)∧∀(H2:AH) (d':CD),(∀c,c∉gi→H2[c]? = H[c]?)→bM H2 a d' gi→aJ H2 (A++a::B) (D++d'::E) fp
  | [],B,[],E,fp,_,⟨f1,f2,e,o1,o2⟩,nd=>by
    subst e
    have hd:=List.nodup_append.1 nd
    exact⟨f1,o1,hd.1,fun c h=>by simp[h],fun H2 d' hf o=>⟨f1,f2,rfl,o,o2.frame fun c hc=>hf c (fun h=>hd.2.2 c h c hc rfl)⟩⟩
  | x::A,B,y::D,E,fp,hl,⟨f1,f2,e,o1,o2⟩,nd=>by
    subst e
    have hd:=List.nodup_append.1 nd
    obtain⟨gi,q1,q2,q3,q4⟩:=aJ.pick (by simpa using hl) o2 hd.2.1
    exact⟨gi,q1,q2,fun c h=>by simp[q3 c h],fun H2 d' hf o=>⟨f1,f2,rfl,o1.frame fun c hc=>hf c (fun h=>hd.2.2 c hc c (q3 c h) rfl),q4 H2 d' hf o⟩⟩
end Go.AM
namespace Go.AM
def rk(n:Nat)(out:ByteArray):ByteArray:=if h:n=0 then out else rk (n / 10) (⟨#[UInt8.ofNat (48+n % 10)]⟩++out)
termination_by n
decreasing_by omega
def dZ(k:Int):ByteArray:=if k≤0 then ⟨#[109,48]⟩else ⟨#[109]⟩++rk k.toNat ⟨#[]⟩
def aP.aL(x:aP):Int:=2
def aP.dD(x:aP)(k:Int):aP:=⟨k,k+1⟩
theorem aP.aU(x:aP):0≤x.aL:=by unfold aP.aL;omega
def gw.aL(x:gw):Int:=3
def gw.dD(x:gw)(k:Int):gw:=⟨k,k+1,k+2⟩
theorem gw.aU(x:gw):0≤x.aL:=by unfold gw.aL;omega
def bu.aL(x:bu):Int:=6+aG aP.aL x.args
def bu.dD(x:bu)(k:Int):bu:=⟨k,dZ (k+1),fj aP.dD aP.aL x.args (k+2),k+2+aG aP.aL x.args,⟨k+3+aG aP.aL x.args,k+4+aG aP.aL x.args,k+5+aG aP.aL x.args⟩⟩
theorem bu.aU(x:bu):0≤x.aL:=by unfold bu.aL;have:=bt (c:=aP.aL) (aP.aU) x.args;omega
def bG.aL(x:bG):Int:=2
def bG.dD(x:bG)(k:Int):bG:=⟨k,k+1⟩
theorem bG.aU(x:bG):0≤x.aL:=by unfold bG.aL;omega
def ba.aL(x:ba):Int:=9+aG aP.aL x.slots+aG bu.aL x.queue+aG bG.aL x.askers
def ba.dD(x:ba)(k:Int):ba:=⟨k,k+1,fj aP.dD aP.aL x.slots (k+2),k+2+aG aP.aL x.slots,⟨k+3+aG aP.aL x.slots,k+4+aG aP.aL x.slots⟩,fj bu.dD bu.aL x.queue (k+5+aG aP.aL x.slots),fj bG.dD bG.aL x.askers (k+5+aG aP.aL x.slots+aG bu.aL x.queue),k+5+aG aP.aL x.slots+aG bu.aL x.queue+aG bG.aL x.askers,k+6+aG aP.aL x.slots+aG bu.aL x.queue+aG bG.aL x.askers,k+7+aG aP.aL x.slots+aG bu.aL x.queue+aG bG.aL x.askers,k+8+aG aP.aL x.slots+aG bu.aL x.queue+aG bG.aL x.askers⟩
theorem ba.aU(x:ba):0≤x.aL:=by unfold ba.aL;have:=bt (c:=aP.aL) (aP.aU) x.slots;have:=bt (c:=bu.aL) (bu.aU) x.queue;have:=bt (c:=bG.aL) (bG.aU) x.askers;omega
def bj.aL(x:bj):Int:=3
def bj.dD(x:bj)(k:Int):bj:=⟨k,k+1,k+2⟩
theorem bj.aU(x:bj):0≤x.aL:=by unfold bj.aL;omega
def aI.aL(x:aI):Int:=2
def aI.dD(x:aI)(k:Int):aI:=⟨k,k+1⟩
theorem aI.aU(x:aI):0≤x.aL:=by unfold aI.aL;omega
def cq.aL(x:cq):Int:=4+aG bj.aL x.exports+aG aI.aL x.questions+aG aI.aL x.answers
def cq.dD(x:cq)(k:Int):cq:=⟨k,decide ((k+1) % 3=0),fj bj.dD bj.aL x.exports (k+2),k+2+aG bj.aL x.exports,fj aI.dD aI.aL x.questions (k+3+aG bj.aL x.exports),k+3+aG bj.aL x.exports+aG aI.aL x.questions,fj aI.dD aI.aL x.answers (k+4+aG bj.aL x.exports+aG aI.aL x.questions)⟩
theorem cq.aU(x:cq):0≤x.aL:=by unfold cq.aL;have:=bt (c:=bj.aL) (bj.aU) x.exports;have:=bt (c:=aI.aL) (aI.aU) x.questions;have:=bt (c:=aI.aL) (aI.aU) x.answers;omega
def bp.aL(x:bp):Int:=2
def bp.dD(x:bp)(k:Int):bp:=⟨k,k+1⟩
theorem bp.aU(x:bp):0≤x.aL:=by unfold bp.aL;omega
def bw.aL(x:bw):Int:=11+aG bp.aL x.args
def bw.dD(x:bw)(k:Int):bw:=⟨k,k+1,k+2,k+3,dZ (k+4),fj bp.dD bp.aL x.args (k+5),⟨k+5+aG bp.aL x.args,k+6+aG bp.aL x.args⟩,k+7+aG bp.aL x.args,⟨k+8+aG bp.aL x.args,k+9+aG bp.aL x.args,k+10+aG bp.aL x.args⟩⟩
theorem bw.aU(x:bw):0≤x.aL:=by unfold bw.aL;have:=bt (c:=bp.aL) (bp.aU) x.args;omega
def aO.aL(x:aO):Int:=12+aG bp.aL x.message.args
def aO.dD(x:aO)(k:Int):aO:=⟨k,⟨k+1,k+2,k+3,k+4,dZ (k+5),fj bp.dD bp.aL x.message.args (k+6),⟨k+6+aG bp.aL x.message.args,k+7+aG bp.aL x.message.args⟩,k+8+aG bp.aL x.message.args,⟨k+9+aG bp.aL x.message.args,k+10+aG bp.aL x.message.args,k+11+aG bp.aL x.message.args⟩⟩⟩
theorem aO.aU(x:aO):0≤x.aL:=by unfold aO.aL;have:=bt (c:=bp.aL) (bp.aU) x.message.args;omega
def eV.aL(x:eV):Int:=1+aG ba.aL x.entities+aG bu.aL x.loop+aG cq.aL x.links+aG aO.aL x.out
def eV.dD(x:eV)(k:Int):eV:=⟨k,fj ba.dD ba.aL x.entities (k+1),fj bu.dD bu.aL x.loop (k+1+aG ba.aL x.entities),fj cq.dD cq.aL x.links (k+1+aG ba.aL x.entities+aG bu.aL x.loop),fj aO.dD aO.aL x.out (k+1+aG ba.aL x.entities+aG bu.aL x.loop+aG cq.aL x.links)⟩
theorem eV.aU(x:eV):0≤x.aL:=by unfold eV.aL;have:=bt (c:=ba.aL) (ba.aU) x.entities;have:=bt (c:=bu.aL) (bu.aU) x.loop;have:=bt (c:=cq.aL) (cq.aU) x.links;have:=bt (c:=aO.aL) (aO.aU) x.out;omega
def aj.aL(x:aj):Int:=6
def aj.dD(x:aj)(k:Int):aj:=⟨k,k+1,k+2,k+3,k+4,dZ (k+5)⟩
theorem aj.aU(x:aj):0≤x.aL:=by unfold aj.aL;omega
def ah.aL(x:ah):Int:=1+aG aj.aL x.code
def ah.dD(x:ah)(k:Int):ah:=⟨dZ (k),fj aj.dD aj.aL x.code (k+1)⟩
theorem ah.aU(x:ah):0≤x.aL:=by unfold ah.aL;have:=bt (c:=aj.aL) (aj.aU) x.code;omega
def ae.aL(x:ae):Int:=1+aG ah.aL x.methods
def ae.dD(x:ae)(k:Int):ae:=⟨dZ (k),fj ah.dD ah.aL x.methods (k+1)⟩
theorem ae.aU(x:ae):0≤x.aL:=by unfold ae.aL;have:=bt (c:=ah.aL) (ah.aU) x.methods;omega
end Go.AM
namespace Go.AM
theorem aJ.uY{H:AH}{as:List AV}{xs:List (List CD)}{f1:List Nat}(o1:aJ H as xs.flatten f1){ys:List AV}{row:List CD}{f2:List Nat}(o2:aJ H ys row f2):aJ H (as++ys) (xs++[row]).flatten (f1++f2):=by
  rw[List.flatten_append];simpa using o1.append o2
theorem fk{H:AH}{v:AV}{sz bytes:Nat}{xs:List (List CD)}{fp:List Nat}(o:bM H v (.sl sz xs) fp){ys:List AV}{row:List CD}{f2:List Nat}(nd:(fp++f2).Nodup)(h0:0<sz)(hy:ys.length=sz)
    (oy:aJ H ys row f2) (hb:(xs.length+1)*(sz+bytes)≤bk):
    ∃v' H' fp',(∀e l,mP ⟨e,l,H++[some (0,ys)]⟩ sz bytes v (cB ⟨e,l,H++[some (0,ys)]⟩ sz false (.gs H.length 0 0 1 1 sz true)) (lenOf (.gs H.length 0 0 1 1 sz true)) (lenOf v)=.val v' ⟨e,l,H'⟩)∧
      bM H' v' (.sl sz (xs++[row])) fp'∧fp'.Nodup∧(∀c,c∉fp→c<H.length→H'[c]? = H[c]?)∧H.length≤H'.length∧(∀c∈fp',c∈fp∨c∈f2∨H.length≤c):=by
  have hno:=oy.aK
  have src:∀e l,cB ⟨e,l,H++[some (0,ys)]⟩ sz false (.gs H.length 0 0 1 1 sz true)=some ys:=fun e l=>by
    simp[cB,St.aE,bx,pa hy]
  have hd:=List.nodup_append.1 nd
  have hrl:row.length=sz:=by rw[←oy.len,hy]
  rcases o.gf with⟨rfl,rfl,rfl⟩|⟨b,g,cap,ex,as,tail,fp',rfl,rfl,hg,h3,ht,hc,ho⟩
  · refine⟨.gs (H.length+1) 0 0 1 1 sz false,(H++[some (0,ys)])++[some (0,ys)],(H.length+1)::f2,fun e l=>?_,?_,?_,?_,?_,?_⟩
    · rw[src]
      simp only[mP,lenOf,kA,St.push]
      rw[if_neg (by omega),if_neg (by simp at hb;omega),if_neg (by omega),if_pos hno]
      simp[AR.uP]
    · have:=bM.sl_mk (h:=(H++[some (0,ys)])++[some (0,ys)]) (b:=H.length+1) (g:=0) (cap:=1) (sz:=sz) (ex:=false) (as:=ys) (tail:=[]) (xs:=[row]) (fp:=f2)
        (by rw[List.append_nil,show H.length+1=(H++[some (0,ys)]).length by simp];exact bx _ _) (by simp[hrl]) (by simp) (by simp) (by simpa using(oy.grow (new:=[some (0,ys)])).grow (new:=[some (0,ys)]))
      simpa using this
    · refine List.nodup_cons.2 ⟨fun hm=>?_,hd.2.1⟩
      have:=oy.lt _ hm;omega
    · intro c _ hl;rw[List.append_assoc,List.getElem?_append_left hl]
    · simp
    · intro c hc
      rcases List.mem_cons.1 hc with rfl|hc
      · exact .inr (.inr (by omega))
      · exact .inr (.inl hc)
  have hbl:b<H.length:=cw hg
  have hal:as.length=xs.length*sz:=by
    rw[ho.len]
    have:=gX (l:=xs) (f:=fun x=>x) (sz:=sz) h3
    simpa using this
  have hg2:aS (H++[some (0,ys)]) b=some (g,as++tail):=nU hg _
  have hnb:b∉f2:=fun hm=>hd.2.2 b (by simp) b hm rfl
  have hnbp:b∉fp':=(List.nodup_cons.1 hd.1).1
  have hset:∀z,((H++[some (0,ys)]).set b z)=(H.set b z)++[some (0,ys)]:=fun z=>by rw[List.set_append_left _ _ hbl]
  have hgs:∀z:Nat×List AV,aS ((H++[some (0,ys)]).set b (some z)) b=some z:=fun z=>by
    simp only[aS,hset,List.getElem?_append_left (show b<(H.set b (some z)).length by simpa using hbl)];simp[hbl]
  have hfr:∀(z:Option (Nat×List AV)) (c:Nat),c≠b→c<H.length→((H++[some (0,ys)]).set b z)[c]? = H[c]?:=fun z c hc hl=>by
    rw[hset,List.getElem?_append_left (by simpa using hl),List.getElem?_set_ne (Ne.symm hc)]
  have own2:∀z,aJ ((H++[some (0,ys)]).set b z) (as++ys) (xs++[row]).flatten (fp'++f2):=fun z=>
    aJ.uY (ho.frame fun c hc=>hfr z c (fun e=>hnbp (e▸hc)) (ho.lt c hc)) (oy.frame fun c hc=>hfr z c (fun e=>hnb (e▸hc)) (oy.lt c hc))
  have nd2:(b::(fp'++f2)).Nodup:=by simpa using nd
  have h3':∀l∈xs++[row],l.length=sz:=fun l hl=>by
    rcases List.mem_append.1 hl with hl|hl
    · exact h3 l hl
    · rw[List.mem_singleton.1 hl];exact hrl
  have mem:∀c∈b::(fp'++f2),c∈b::fp'∨c∈f2∨H.length≤c:=fun c hc=>by
    rcases List.mem_cons.1 hc with rfl|hc
    · exact .inl (by simp)
    · rcases List.mem_append.1 hc with hc|hc
      · exact .inl (by simp[hc])
      · exact .inr (.inl hc)
  by_cases hcap:xs.length+1≤cap
  · have hroom:(xs.length+1)*sz≤(as++tail).length:=by
      have h1:(xs.length+1)*sz=xs.length*sz+sz:=Nat.succ_mul _ _
      have h2:1*sz≤(cap-xs.length)*sz:=Nat.mul_le_mul_right _ (by omega)
      have:=hc.2
      rw[List.length_append,hal];omega
    have hroom2:(cap-(xs.length+1))*sz≤(tail.drop sz).length:=by
      have h1:cap-xs.length=(cap-(xs.length+1))+1:=by omega
      have h2:=hc.2
      rw[h1,Nat.succ_mul]at h2
      rw[List.length_drop];omega
    have hov:over (as++tail) (xs.length*sz) ys=(as++ys)++tail.drop sz:=by
      simp only[over]
      rw[←hal,List.take_left',List.drop_append,List.drop_of_length_le (by omega),show as.length+ys.length-as.length=sz by omega]
      · simp
      · rfl
    refine⟨.gs b g 0 (xs.length+1) cap sz ex,(H++[some (0,ys)]).set b (some (g,(as++ys)++tail.drop sz)),b::(fp'++f2),fun e l=>?_,?_,nd2,?_,by simp,mem⟩
    · rw[src]
      simp only[mP,lenOf,kA]
      rw[if_neg (by omega),if_neg (by omega)]
      simp only[hg2,Option.bind_some,if_true,hno]
      rw[if_pos hcap,if_pos (by rw[Nat.zero_add];exact hroom),Nat.zero_add,hov]
      rfl
    · have:=bM.sl_mk (h:=(H++[some (0,ys)]).set b (some (g,(as++ys)++tail.drop sz))) (b:=b) (g:=g) (cap:=cap) (sz:=sz) (ex:=ex) (as:=as++ys) (tail:=tail.drop sz) (xs:=xs++[row]) (fp:=fp'++f2)
        (hgs _) h3' (fun x hx=>ht x (List.mem_of_mem_drop hx)) ⟨by simpa using hcap,by simpa using hroom2⟩ (own2 _)
      simpa using this
    · intro c hc hl;exact hfr _ c (fun e=>hc (by simp[e])) hl
  · refine⟨.gs b (g+1) 0 (xs.length+1) (xs.length+1) sz false,(H++[some (0,ys)]).set b (some (g+1,as++ys)),b::(fp'++f2),fun e l=>?_,?_,nd2,?_,by simp,mem⟩
    · rw[src]
      simp only[mP,lenOf,kA]
      rw[if_neg (by omega),if_neg (by omega)]
      simp only[hg2,Option.bind_some,if_true,hno]
      rw[if_neg hcap]
      have:sub (as++tail) 0 (xs.length*sz)=some as:=by
        simp only[sub];rw[if_pos (by rw[Nat.zero_add,←hal,List.length_append];omega)];simp[←hal]
      rw[this];rfl
    · have:=bM.sl_mk (h:=(H++[some (0,ys)]).set b (some (g+1,as++ys))) (b:=b) (g:=g+1) (cap:=xs.length+1) (sz:=sz) (ex:=false) (as:=as++ys) (tail:=[]) (xs:=xs++[row]) (fp:=fp'++f2)
        (by rw[List.append_nil];exact hgs _) h3' (by simp) (by simp) (own2 _)
      simpa using this
    · intro c hc hl;exact hfr _ c (fun e=>hc (by simp[e])) hl
end Go.AM
namespace Go.AM
theorem bM.fO{h:AH}{a:AV}{d:CD}{fp:List Nat}(o:bM h a d fp):Go.AM.fO a=true:=by cases o<;>rfl
theorem lj(h:AH)(sz:Nat):bM (h++[some (0,[])]) (.gs h.length 0 0 0 0 sz true) (.sl sz []) [h.length]:=
  bM.sl_mk (xs:=[]) (as:=[]) (tail:=[]) (by simp[bx]) (by simp) (by simp) (by simp) rfl
theorem pS{h N H':AH}{fp:List Nat}(hl:(h++N).length≤H'.length)(hf:∀c,c∉fp→c<(h++N).length→H'[c]? = (h++N)[c]?)(hfp:∀c∈fp,h.length≤c):∃N',H'=h++N':=by
  refine⟨H'.drop h.length,?_⟩
  have hlen:h.length≤H'.length:=by simp at hl;omega
  apply List.ext_getElem?
  intro c
  rcases Nat.lt_or_ge c h.length with g|g
  · rw[hf c (fun hc=>by have:=hfp c hc;omega) (by simp;omega),List.getElem?_append_left g,List.getElem?_append_left g]
  · rw[List.getElem?_append_right g,List.getElem?_drop,show h.length+(c-h.length)=c by omega]
theorem HE(z:List AV):(List.replicate 0 z).flatten=[]:=rfl
theorem D0(z:List AV):(List.replicate 1 z).flatten=z:=by simp
theorem wQ(e:List AV)(l:List (List AV))(h:AH)(sz len:Nat)(cs:List AV):tU ⟨e,l,h⟩ sz len (some cs)=if cs.all aK=true then .val (.gs h.length 0 0 len len sz true) ⟨e,l,h++[some (0,cs)]⟩else .stuck:=by simp[tU,St.push]
theorem vA(x:AV)(xs:List AV):(x::xs).all aK=(aK x && xs.all aK):=rfl
theorem vI:([]:List AV).all aK=true:=rfl
theorem zk(k:IntKind)(n:Int):aK (.int k n)=true:=rfl
theorem Ap(b:Bool):aK (.bool b)=true:=rfl
theorem zx(b:ByteArray):aK (.str b)=true:=rfl
theorem BP:aK .nils=true:=rfl
theorem EA:type_of% (And.intro @HE (And.intro @D0 (And.intro @wQ (And.intro @vA (And.intro @vI (And.intro @zk (And.intro @Ap (And.intro @zx (And.intro @BP (And.intro @Bool.and_self (And.intro @Nat.zero_mul (@AQ)))))))))))):=And.intro @HE (And.intro @D0 (And.intro @wQ (And.intro @vA (And.intro @vI (And.intro @zk (And.intro @Ap (And.intro @zx (And.intro @BP (And.intro @Bool.and_self (And.intro @Nat.zero_mul (@AQ)))))))))))
end Go.AM
namespace Go.AM
structure du (h H:AH):Prop where
  len:h.length≤H.length
  fr:∀c,c<h.length→H[c]? = h[c]?
theorem du.refl(h:AH):du h h:=⟨Nat.le_refl _,fun _ _=>rfl⟩
theorem du.trans{h1 h2 h3:AH}(a:du h1 h2)(b:du h2 h3):du h1 h3:=⟨Nat.le_trans a.len b.len,fun c hc=>(b.fr c (Nat.lt_of_lt_of_le hc a.len)).trans (a.fr c hc)⟩
theorem du.app(h N:AH):du h (h++N):=⟨by simp,fun c hc=>List.getElem?_append_left hc⟩
theorem du.out{h H:AH}(e:du h H):∃N,H=h++N:=by
  refine⟨H.drop h.length,?_⟩
  have:=e.len
  apply List.ext_getElem?
  intro c
  rcases Nat.lt_or_ge c h.length with g|g
  · rw[e.fr c g,List.getElem?_append_left g]
  · rw[List.getElem?_append_right g,List.getElem?_drop,show h.length+(c-h.length)=c by omega]
theorem du.mark{h H H':AH}{fp:List Nat}(e:du h H)(hl:H'.length=H.length)(hf:∀c,c∉fp→H'[c]? = H[c]?)(hp:∀c∈fp,h.length≤c):du h H':=
  ⟨by rw[hl];exact e.len,fun c hc=>(hf c (fun hm=>by have:=hp c hm;omega)).trans (e.fr c hc)⟩
theorem bM.ext{h H:AH}{a:AV}{d:CD}{fp:List Nat}(o:bM h a d fp)(e:du h H):bM H a d fp:=o.frame fun c hc=>e.fr c (o.lt c hc)
theorem aJ.ext{h H:AH}{as:List AV}{ds:List CD}{fp:List Nat}(o:aJ h as ds fp)(e:du h H):aJ H as ds fp:=o.frame fun c hc=>e.fr c (o.lt c hc)
theorem bM.jB{α:Type}{H:AH}{v:AV}{sz:Nat}{cd:α→List CD}{c:α→List AV}{l:List α}{fp:List Nat}(hc:∀x,(cd x).map (CD.av true)=c x)(o:bM H v (.sl sz (l.map cd)) fp):et H v (.vs true sz false (l.map c)):=by
  have:=o.view.1
  rw[CD.df,List.map_map]at this
  have e:((fun x=>List.map (CD.av true) x) ∘ cd)=c:=funext fun x=>hc x
  rwa[e]at this
theorem aJ.jB{H:AH}{as:List AV}{cs:List CD}{ys:List AV}{fp:List Nat}(hc:cs.map (CD.av true)=ys)(o:aJ H as cs fp):et H (.agg as) (.agg ys):=by
  subst hc
  have:=o.snap.spec
  refine .agg as _ this.1 (fun i=>as.getD i .any) (fun i y hy=>?_) (fun i y hy=>?_)
  · obtain⟨x,hx,_⟩:=this.2 i y hy;simp[List.getD_eq_getElem?_getD,hx]
  · obtain⟨x,hx,hf⟩:=this.2 i y hy;simpa[List.getD_eq_getElem?_getD,hx]using hf
theorem ca.c1{h H:AH}{d:CD}{v:AV}(f:ca h [.c d] v H):∃fp,bM H v d fp∧fp.Nodup∧(∀b∈fp,h.length≤b)∧du h H:=by
  obtain⟨new,fp,rfl,o,nd,hb⟩:=f.one;exact⟨fp,o,nd,hb,du.app h new⟩
theorem ca.a1{h H:AH}{cs:List CD}{v:AV}(f:ca h [.a cs] v H):∃as fp,v=.agg as∧aJ H as cs fp∧fp.Nodup∧(∀b∈fp,h.length≤b)∧du h H:=by
  obtain⟨as,new,fp,e,rfl,o,nd,hb⟩:=f.I5;exact⟨as,fp,e,o,nd,hb,du.app h new⟩
theorem ca.c2{h H:AH}{d d':CD}(hd:d'.flat=true){v:AV}(f:ca h [.c d,.c d'] v H):∃a fp,v=.tup [a,d'.av true]∧bM H a d fp∧fp.Nodup∧(∀b∈fp,h.length≤b)∧du h H:=by
  obtain⟨vs,new,fp,rfl,rfl,o,nd,hb,_⟩:=f
  match vs,o with
  | [a,a'],⟨f1,f2,e,o1,f3,f4,e',o2,e''⟩=>
    have o2:bM (h++new) a' d' f3:=o2
    have e'':f4=[]:=e''
    subst e''
    have:a'=d'.av true∧f3=[]:=by
      cases d' with
      | i=>obtain⟨rfl,rfl⟩:=rz.1 o2;simp[CD.eX]
      | b=>obtain⟨rfl,rfl⟩:=qO.1 o2;simp[CD.fu]
      | s=>obtain⟨rfl,rfl⟩:=mb.1 o2;simp[CD.eU]
      | sl=>cases hd
    obtain⟨rfl,rfl⟩:=this
    simp at e';subst e'
    simp at e;subst e
    exact⟨a,fp,rfl,o1,nd,hb,du.app h new⟩
theorem ca.a2{h H:AH}{cs:List CD}{d':CD}(hd:d'.flat=true){v:AV}(f:ca h [.a cs,.c d'] v H):∃as fp,v=.tup [.agg as,d'.av true]∧aJ H as cs fp∧fp.Nodup∧(∀b∈fp,h.length≤b)∧du h H:=by
  obtain⟨vs,new,fp,rfl,rfl,o,nd,hb,_⟩:=f
  match vs,o with
  | [a,a'],⟨f1,f2,e,o1,f3,f4,e',o2,e''⟩=>
    have o2:bM (h++new) a' d' f3:=o2
    have e'':f4=[]:=e''
    subst e''
    obtain⟨as,rfl,o1⟩:=o1
    have:a'=d'.av true∧f3=[]:=by
      cases d' with
      | i=>obtain⟨rfl,rfl⟩:=rz.1 o2;simp[CD.eX]
      | b=>obtain⟨rfl,rfl⟩:=qO.1 o2;simp[CD.fu]
      | s=>obtain⟨rfl,rfl⟩:=mb.1 o2;simp[CD.eU]
      | sl=>cases hd
    obtain⟨rfl,rfl⟩:=this
    simp at e';subst e'
    simp at e;subst e
    exact⟨as,fp,rfl,o1,nd,hb,du.app h new⟩
theorem sQ(a:AV):gu [a]=a:=rfl
theorem tB(a b:AV):gu [a,b]=.tup [a,b]:=rfl
theorem Gp(β:Bool)(d:CD):(RD.c d).av β=d.av β:=rfl
theorem Hp(β:Bool)(cs:List CD):(RD.a cs).av β=.agg (cs.map (CD.av β)):=rfl
theorem dC{h:AH}:gC h [] []:=trivial
theorem b6{h:AH}{x y:AV}{xs ys:List AV}(a:et h x y)(b:gC h xs ys):gC h (x::xs) (y::ys):=⟨a,b⟩
end Go.AM
namespace Go.AM
theorem gW{H:AH}{v:AV}{sz:Nat}{xs:List (List CD)}{fp:List Nat}(o:bM H v (.sl sz xs) fp):lenOf v=some xs.length∧gq false v=some (.int .i64 xs.length):=by
  rcases o.gf with⟨rfl,rfl,rfl⟩|⟨b,g,cap,ex,as,tail,fp',rfl,rfl,hg,h3,ht,hc,ho⟩<;>exact⟨rfl,rfl⟩
theorem du.Jm{h H0 H':AH}{fp:List Nat}(e:du h H0)(hl:H0.length≤H'.length)(hf:∀c,c∉fp→c<H0.length→H'[c]? = H0[c]?)(hp:∀c∈fp,h.length≤c):du h H':=
  ⟨Nat.le_trans e.len hl,fun c hc=>(hf c (fun hm=>by have:=hp c hm;omega) (by have:=e.len;omega)).trans (e.fr c hc)⟩
theorem xi{α:Type}(s:St)(β:Bool)(sz:Nat)(l:List α)(c:α→List AV){k:Nat}(hk:k≤l.length):cutFrom (.sl sz) s (.vs β sz false (l.map c)) (.int .i64 k)=.val (.vs β sz false ((l.drop k).map c)) s:=by
  have e:fG (.int .i64 (k:Int))=some k:=by simp[fG,rQ]
  simp only[cutFrom,e,db]
  have e2:List.take (l.map c).length (l.map c)=l.map c:=List.take_length
  simp[AR.cZ,List.map_drop,hk]
  rw[List.take_of_length_le (by simp)]
end Go.AM
namespace Go.AM
variable {P:Program} {Γ:aZ}
theorem T.tp{f:FuncId}{args:List AV}{h:AH}{d d':CD}(hd:d'.flat=true)(t:T P Γ f args h fun v h'=>∃a new fp,v=.tup [a,d'.av true]∧h'=h++new∧bM h' a d fp∧fp.Nodup∧∀b∈fp,h.length≤b):T P Γ f args h (ca h [.c d,.c d']):=
  t.fresh fun v h' ⟨a,new,fp,e1,e2,o,nd,hb⟩=>⟨[a,d'.av true],new,fp,e1,e2,⟨fp,[],by simp,o,⟨[],[],rfl,CD.mz hd true,rfl⟩⟩,nd,hb⟩
theorem T.ye{f:FuncId}{args:List AV}{h:AH}{cs:List CD}{d':CD}(hd:d'.flat=true)(t:T P Γ f args h fun v h'=>∃aa new fp,v=.tup [.agg aa,d'.av true]∧h'=h++new∧aJ h' aa cs fp∧fp.Nodup∧∀b∈fp,h.length≤b):T P Γ f args h (ca h [.a cs,.c d']):=
  t.fresh fun v h' ⟨a,new,fp,e1,e2,o,nd,hb⟩=>⟨[.agg a,d'.av true],new,fp,e1,e2,⟨fp,[],by simp,⟨a,rfl,o⟩,⟨[],[],rfl,CD.mz hd true,rfl⟩⟩,nd,hb⟩
theorem du.mem{h H:AH}(e:du h H)(a b:List AV)(l:List (List AV)):Mem ⟨a,l,h⟩ ⟨b,l,H⟩:=
  ⟨fun _ _ hx=>hx,fun c x hx=>by
    have h1:=bb hx
    exact pV (by show H[c]? = _;rw[e.fr c (ar h1)];exact h1)⟩
end Go.AM
namespace Go.AM
section
variable {α:Type} {c:α→List AV} {sz:Nat} (hc:∀x,(c x).length=sz)
include hc
end
theorem Hh{Γ:aZ}(gl:Bool)(s:St)(sz:Nat)(z:List AV)(x:X):step Γ gl s (.clr sz z x)=.vP (qw s sz z (s.eval Γ x)):=rfl
theorem uA(s:St){b g len cap sz:Nat}{ex:Bool}{i:Nat}(h1:i≤len)(h2:len≤cap):cutFrom (.sl sz) s (.gs b g 0 len cap sz ex) (.int .i64 i)=.val (.gs b g (i*sz) (len-i) (cap-i) sz ex) s:=by
  have e:fG (.int .i64 (i:Int))=some i:=by simp[fG,rQ]
  simp[cutFrom,e,db,AR.cZ,h1,h2]
theorem yN(s:St){b g len cap sz:Nat}{ex:Bool}{i:Nat}(h2:i≤cap):ig (.sl sz) s (.gs b g 0 len cap sz ex) (.int .i64 i)=.val (.gs b g 0 i cap sz ex) s:=by
  have e:fG (.int .i64 (i:Int))=some i:=by simp[fG,rQ]
  simp[ig,e,db,AR.cZ,h2]
end Go.AM
namespace Go.AM
theorem l9{Γ:aZ}(gl:Bool)(s:St)(k:IntKind)(x:X):step Γ gl s (.cvi k x)=(match s.eval Γ x with|.int _ n=>.val (.int k (k.wrap n)) s|_=>.stuck):=rfl
end Go.AM
namespace Go.AM
section
variable {P:Program} {Γ:aZ}
end
end Go.AM
namespace Go.AM
section
variable {Γ:aZ}
end
end Go.AM
namespace Go.AM
section
variable {Γ:aZ}
theorem GM(gl:Bool)(s:St)(b:Bool)(xs:List X):step Γ gl s (.mm b xs)=.cZ s (CS b (xs.map (s.eval Γ))):=rfl
theorem Db(k:IntKind)(a c:Int):CS true [.int k a,.int k c]=some (.int k (max a c)):=by
  simp only[CS,if_true]
  congr 2
  split<;>omega
end
end Go.AM
namespace Go.AM
theorem wq(n:Nat):IntKind.u8.wrap (n:Int)=((n % 256:Nat):Int):=by
  unfold IntKind.wrap
  simp[IntKind.bits,IntKind.signed]
def enc:Nat→Nat→List Int
  | 0,n=>[(n:Int)]
  | f+1,n=>if n<128 then [(n:Int)]else ((n % 128+128:Nat):Int)::enc f (n / 128)
end Go.AM
namespace Go.AM
variable {ρ:bO} {ls:List Nat} {L:List (List AV)} {h:AH} {w:World}
theorem RH.iB{w':World}(r:RH ρ ls L h w)(hs:w.heap.size≤w'.heap.size)(ho:∀c,c<w.heap.size→w'.heap[c]? = w.heap[c]?):RH ρ ls L h w':=by
  have up:∀{c:Nat} {x:Obj},w.heap[c]? = some x→w'.heap[c]? = some x:=fun e=>by rw[ho _ (bV e)];exact e
  refine⟨fun b g cs e=>?_,fun i cs e=>?_,r.len,r.nod,r.hh,r.hl,fun β c arr e=>?_,r.iml,r.imh,fun b g c o n e=>⟨Nat.lt_of_lt_of_le (r.dom b g c o n e).1 hs,(r.dom b g c o n e).2⟩⟩
  · obtain⟨c,o,n,arr,T,fr,e1,e2,e3⟩:=r.hp b g cs e
    exact⟨c,o,n,arr,T,fr,e1,up e2,e3⟩
  · obtain⟨c,arr,T,fr,e1,e2,e3⟩:=r.lp i cs e
    exact⟨c,arr,T,fr,e1,up e2,e3⟩
  · obtain⟨T,fr,e1⟩:=r.im β c arr e
    exact⟨T,fr,up e1⟩
theorem ez.iB{w':World}(hs:w.heap.size≤w'.heap.size)(ho:∀c,c<w.heap.size→w'.heap[c]? = w.heap[c]?)(eo:w'.os=w.os)(ep:w'.output=w.output):ez ρ ls h w ρ ls h w':=
  ⟨.refl _,.refl _,hs,fun c hc _=>ho c hc,fun _ _ _ _ _ _ h m=>.inr ⟨_,_,_,_,h,m⟩,fun _ _ h=>.inr h,fun _ _ _ _ e=>e,Nat.le_refl _,eo,ep⟩
theorem my{x:AV}{vs:List Value}(r:cV ρ [] [x] vs):∃v,vs=[v]∧RV ρ [] x v:=by
  obtain⟨h1,h2⟩:=r
  match vs,h1 with
  | [v],_=>exact⟨v,rfl,h2 0 x rfl⟩
end Go.AM
namespace Go.AM
section
variable {P:Program} {Θ:gQ} {Γ:aZ}
def ki(s:St):AV→AV→AR
  | .str v,.int _ n=>.cZ s (if 0≤n then (v[n.toNat]?).map fun b=>.int .u8 b.toNat else none)
  | _,_=>.stuck
theorem dx(gl:Bool)(s:St)(x i:X):step Γ gl s (.idxstr x i)=ki s (s.eval Γ x) (s.eval Γ i):=by
  simp only[step];unfold ki;rfl
def bP(v:ByteArray)(k:Nat):Nat:=(v.data.toList.getD k 0).toNat
theorem gU(s:St){v:ByteArray}{k:Nat}(h:k<v.size):ki s (.str v) (.int .i64 (k:Int))=.val (.int .u8 (bP v k:Nat)) s:=by
  have e:v[k]? = some v[k]:=getElem?_pos v k h
  have e2:v.data.toList[k]? = some v[k]:=by
    have h':k<v.data.size:=h
    rw[Array.getElem?_toList,Array.getElem?_eq_getElem h'];rfl
  simp only[ki]
  rw[if_pos (by omega),Int.toNat_natCast,e]
  simp only[Option.map_some,AR.cZ,bP,List.getD_eq_getElem?_getD,e2,Option.getD_some]
end
theorem dA(v:ByteArray):gq true (.str v)=some (.int .i64 v.size):=rfl
end Go.AM
