import Derived.Test.YtdlbaonelfcahaaGreatDoorAmG8
set_option linter.unusedVariables false
set_option linter.unusedSimpArgs false
namespace Go.AM
def aA.dE(x:aA)(l0:Int):Int:=
  let l1:=(l0-x.name.size);if l1<0 then -1 else
  let l2:=lx x.args l1;if l2<0 then -1 else
  l2
theorem aA.cP(x:aA)(l0:Int)(h0:0≤l0)(h1:l0≤1048576)(h:0≤x.dE l0):x.ok 1048576∧x.dE l0≤l0:=by
  simp only[aA.dE]at h ⊢
  split at h;· omega
  rename_i n1;rw[if_neg n1]
  split at h;· omega
  rename_i n2;rw[if_neg n2]
  have q2:=fJ (Int.not_lt.1 n2)
  exact⟨⟨by omega,by omega⟩,by omega⟩
def an.dE(x:an)(l0:Int):Int:=
  let l1:=lx x.slots l0;if l1<0 then -1 else
  let l2:=lv aA.dE x.queue l1;if l2<0 then -1 else
  let l3:=lx x.askers l2;if l3<0 then -1 else
  l3
theorem an.cP(x:an)(l0:Int)(h0:0≤l0)(h1:l0≤1048576)(h:0≤x.dE l0):x.ok 1048576∧x.dE l0≤l0:=by
  simp only[an.dE]at h ⊢
  split at h;· omega
  rename_i n1;rw[if_neg n1]
  split at h;· omega
  rename_i n2;rw[if_neg n2]
  split at h;· omega
  rename_i n3;rw[if_neg n3]
  have q1:=fJ (Int.not_lt.1 n1)
  have q2:=gF (Q:=aA.ok 1048576) (B:=1048576) (fun x left a b c=>aA.cP x left a b c) (by omega) (by omega) (Int.not_lt.1 n2)
  have q3:=fJ (Int.not_lt.1 n3)
  exact⟨⟨by omega,by omega,q2.1.2,by omega⟩,by omega⟩
def aM.dE(x:aM)(l0:Int):Int:=
  let l1:=lx x.exports l0;if l1<0 then -1 else
  let l2:=lx x.questions l1;if l2<0 then -1 else
  let l3:=lx x.answers l2;if l3<0 then -1 else
  l3
theorem aM.cP(x:aM)(l0:Int)(h0:0≤l0)(h1:l0≤1048576)(h:0≤x.dE l0):x.ok 1048576∧x.dE l0≤l0:=by
  simp only[aM.dE]at h ⊢
  split at h;· omega
  rename_i n1;rw[if_neg n1]
  split at h;· omega
  rename_i n2;rw[if_neg n2]
  split at h;· omega
  rename_i n3;rw[if_neg n3]
  have q1:=fJ (Int.not_lt.1 n1)
  have q2:=fJ (Int.not_lt.1 n2)
  have q3:=fJ (Int.not_lt.1 n3)
  exact⟨⟨by omega,by omega,by omega⟩,by omega⟩
def aR.dE(x:aR)(l0:Int):Int:=
  let l1:=(l0-x.name.size);if l1<0 then -1 else
  let l2:=lx x.args l1;if l2<0 then -1 else
  l2
theorem aR.cP(x:aR)(l0:Int)(h0:0≤l0)(h1:l0≤1048576)(h:0≤x.dE l0):x.ok 1048576∧x.dE l0≤l0:=by
  simp only[aR.dE]at h ⊢
  split at h;· omega
  rename_i n1;rw[if_neg n1]
  split at h;· omega
  rename_i n2;rw[if_neg n2]
  have q2:=fJ (Int.not_lt.1 n2)
  exact⟨⟨by omega,by omega⟩,by omega⟩
def aj.dE(x:aj)(l0:Int):Int:=
  let l1:=x.message.dE l0;if l1<0 then -1 else
  l1
theorem aj.cP(x:aj)(l0:Int)(h0:0≤l0)(h1:l0≤1048576)(h:0≤x.dE l0):x.ok 1048576∧x.dE l0≤l0:=by
  simp only[aj.dE]at h ⊢
  split at h;· omega
  rename_i n1;rw[if_neg n1]
  have q1:=aR.cP _ _ (by omega) (by omega) (Int.not_lt.1 n1)
  exact⟨q1.1,by omega⟩
def aS.dE(x:aS)(l0:Int):Int:=
  let l1:=lv an.dE x.entities l0;if l1<0 then -1 else
  let l2:=lv aA.dE x.loop l1;if l2<0 then -1 else
  let l3:=lv aM.dE x.links l2;if l3<0 then -1 else
  let l4:=lv aj.dE x.out l3;if l4<0 then -1 else
  l4
theorem aS.cP(x:aS)(l0:Int)(h0:0≤l0)(h1:l0≤1048576)(h:0≤x.dE l0):x.ok 1048576∧x.dE l0≤l0:=by
  simp only[aS.dE]at h ⊢
  split at h;· omega
  rename_i n1;rw[if_neg n1]
  split at h;· omega
  rename_i n2;rw[if_neg n2]
  split at h;· omega
  rename_i n3;rw[if_neg n3]
  split at h;· omega
  rename_i n4;rw[if_neg n4]
  have q1:=gF (Q:=an.ok 1048576) (B:=1048576) (fun x left a b c=>an.cP x left a b c) (by omega) (by omega) (Int.not_lt.1 n1)
  have q2:=gF (Q:=aA.ok 1048576) (B:=1048576) (fun x left a b c=>aA.cP x left a b c) (by omega) (by omega) (Int.not_lt.1 n2)
  have q3:=gF (Q:=aM.ok 1048576) (B:=1048576) (fun x left a b c=>aM.cP x left a b c) (by omega) (by omega) (Int.not_lt.1 n3)
  have q4:=gF (Q:=aj.ok 1048576) (B:=1048576) (fun x left a b c=>aj.cP x left a b c) (by omega) (by omega) (Int.not_lt.1 n4)
  exact⟨⟨by omega,q1.1.2,by omega,q2.1.2,by omega,q3.1.2,by omega,q4.1.2⟩,by omega⟩
def aN.dE(x:aN)(l0:Int):Int:=
  let l1:=(l0-x.name.size);if l1<0 then -1 else
  l1
theorem aN.cP(x:aN)(l0:Int)(h0:0≤l0)(h1:l0≤1048576)(h:0≤x.dE l0):x.ok 1048576∧x.dE l0≤l0:=by
  simp only[aN.dE]at h ⊢
  split at h;· omega
  rename_i n1;rw[if_neg n1]
  exact⟨(show x.name.size≤1048576 by omega),by omega⟩
def aJ.dE(x:aJ)(l0:Int):Int:=
  let l1:=(l0-x.name.size);if l1<0 then -1 else
  let l2:=lv aN.dE x.code l1;if l2<0 then -1 else
  l2
theorem aJ.cP(x:aJ)(l0:Int)(h0:0≤l0)(h1:l0≤1048576)(h:0≤x.dE l0):x.ok 1048576∧x.dE l0≤l0:=by
  simp only[aJ.dE]at h ⊢
  split at h;· omega
  rename_i n1;rw[if_neg n1]
  split at h;· omega
  rename_i n2;rw[if_neg n2]
  have q2:=gF (Q:=aN.ok 1048576) (B:=1048576) (fun x left a b c=>aN.cP x left a b c) (by omega) (by omega) (Int.not_lt.1 n2)
  exact⟨⟨by omega,by omega,q2.1.2⟩,by omega⟩
def aB.dE(x:aB)(l0:Int):Int:=
  let l1:=(l0-x.name.size);if l1<0 then -1 else
  let l2:=lv aJ.dE x.methods l1;if l2<0 then -1 else
  l2
theorem aB.cP(x:aB)(l0:Int)(h0:0≤l0)(h1:l0≤1048576)(h:0≤x.dE l0):x.ok 1048576∧x.dE l0≤l0:=by
  simp only[aB.dE]at h ⊢
  split at h;· omega
  rename_i n1;rw[if_neg n1]
  split at h;· omega
  rename_i n2;rw[if_neg n2]
  have q2:=gF (Q:=aJ.ok 1048576) (B:=1048576) (fun x left a b c=>aJ.cP x left a b c) (by omega) (by omega) (Int.not_lt.1 n2)
  exact⟨⟨by omega,by omega,q2.1.2⟩,by omega⟩
theorem EY:type_of% (And.intro EV (And.intro EL (And.intro EB (And.intro @Bool.false_eq_true (And.intro @if_true.{1} (And.intro @if_false.{1} (@Option.bind_some.{0,0}))))))):=And.intro EV (And.intro EL (And.intro EB (And.intro @Bool.false_eq_true (And.intro @if_true.{1} (And.intro @if_false.{1} (@Option.bind_some.{0,0}))))))
end Go.AM
namespace Go.AM
section
variable {P:Program} {Θ:jL} {Γ:bG}
def jx{α:Type}(p:α→Bool)(l:List α):Int:=match l.findIdx? p with|some i=>(i:Int)|none=>-1
theorem qF{α:Type}(p:α→Bool)(l:List α):(∃(k:Nat) (hk:k<l.length),jx p l=(k:Int)∧p l[k]=true∧l.find? p=some l[k])∨(jx p l = -1∧l.find? p=none∧∀x∈l,p x=false):=by
  unfold jx
  cases h:l.findIdx? p with
  | none=>
    rw[List.findIdx?_eq_none_iff]at h
    exact .inr ⟨rfl,by rw[List.find?_eq_none];intro x hx;simp[h x hx],fun x hx=>h x hx⟩
  | some i=>
    obtain⟨hi,h1,h2⟩:=List.findIdx?_eq_some_iff_getElem.1 h
    refine .inl ⟨i,hi,rfl,h1,?_⟩
    rw[List.find?_eq_some_iff_getElem]
    exact⟨h1,i,hi,rfl,fun j hj=>by simpa using h2 j hj⟩
theorem yM{α:Type}{p:α→Bool}{l:List α}{k:Nat}(hk:k<l.length)(h0:∀(i:Nat) (hi:i<l.length),i<k→p l[i]=false)(h1:p l[k]=true):jx p l=(k:Int):=by
  unfold jx
  rw[List.findIdx?_eq_some_iff_getElem.2 ⟨hk,h1,fun j hj=>by simp[h0 j (by omega) hj]⟩]
theorem zS{α:Type}{p:α→Bool}{l:List α}(h:∀(i:Nat) (hi:i<l.length),p l[i]=false):jx p l = -1:=by
  unfold jx
  rw[List.findIdx?_eq_none_iff.2]
  intro x hx
  obtain⟨i,hi,rfl⟩:=List.mem_iff_getElem.1 hx
  exact h i hi
theorem fG{α:Type}(da:cX P Θ)(hm:P.follows .mixedOrders=true){f:FuncId}{sz:Nat}{agg:Bool}(hE:vA P Θ Γ f (pY sz agg) [.t 4] [u,u,u,u,u,u,u,u,u,u,u,u,u,u,u,u,u])
    {β:Bool} {l:List α} {c:α→List AV} (hb:l.length<1099511627776) (hx:∀x,KD agg sz (c x)∧bX (UB agg (c x))=true) {g:FuncId} {first caps:List AV} (hc:(first++caps).all bX=true) (p:α→Bool) {h:AH}
    (hp:∀x∈l,T P Γ g (first++([UB agg (c x)]++caps)) h fun v h'=>v=.bool (p x)∧h'=h):
    T P Γ f [.vs β sz false (l.map c),.fn g first caps] h fun v h'=>v=.int .i64 (jx p l)∧h'=h:=by
  have L0:=bH β sz false l c
  generalize e0:AV.vs β sz false (l.map c)=a0 at *
  refine hE (au da hm [] _ _ _ ?_)
  unfold pY
  simp only[EV,EL,L0]
  refine bD da hm [] (fun k:Nat=>k≤l.length∧∀(i:Nat) (hi:i<l.length),i<k→p l[i]=false) (fun k=>l.length-k)
    (fun k=>⟨[a0,.fn g first caps,.any,.any,.any,.any,.any,.int .i64 l.length,.int .i64 k,.any,.any,.any,.any,.any,.any,.any,.any,.any,.any],[],h⟩) 0 ⟨by omega,fun i hi h=>by omega⟩ ⟨by simp[cj,ck],rfl,rfl⟩ ?_
  rintro k ⟨hk,ht⟩
  simp only[EV,EL]
  refine ba (fun hlt=>?_) (fun hge=>?_)
  · have hlt:k<l.length:=by simpa using hlt
    have i0:=bW (β:=β) (sz:=sz) (ex:=false) (ce:=c) hlt
    rw[e0]at i0
    simp only[EV,EL,i0,Ez (hx l[k]).1]
    refine aq.val ?_ (hp _ (List.getElem_mem hlt)) ?_
    · simp only[List.all_append,List.all_cons,List.all_nil,Bool.and_true,Bool.and_eq_true]at hc ⊢
      exact⟨hc.1,(hx l[k]).2,hc.2⟩
    simp only[EV,EL]
    refine ba (fun hpt=>?_) (fun hpf=>?_)
    · simp only[EV,EL]
      exact⟨rfl,by rw[yM hlt ht hpt]⟩
    · simp only[EV,EL]
      refine⟨k+1,⟨hlt,fun i hi hik=>?_⟩,by omega,⟨?_,rfl,rfl⟩⟩
      · rcases Nat.lt_or_ge i k with h1|h1
        · exact ht i hi h1
        · have:i=k:=by omega
          subst this;exact hpf
      · rw[wN (by omega)]
        simp[cj,ck]
  · have hge:k=l.length:=by simp at hge;omega
    simp only[EV,EL]
    exact⟨rfl,by rw[zS (fun i hi=>ht i hi (by omega))]⟩
def ux(sz bytes:Nat)(z:List AV):C:=.seq (.reg [⟨(some 2),none,.mov (.c (.nils))⟩]) (.seq (.seq (.reg [⟨(some 3),none,.mov (.t 0)⟩,
  ⟨(some 4),none,.bin .eql (.nils) (.t 3) (.c (.nils))⟩]) (.cond (.t 4) (.seq (.reg [⟨(some 2),none,.mov (.c (.nils))⟩]) (.ret)) (.skip))) (.seq (.reg [⟨(some 5),none,.bsl sz 0 z []⟩,
  ⟨(some 6),none,.mov (.t 0)⟩,
  ⟨(some 7),none,.app sz bytes z false (.t 5) (.t 6)⟩,
  ⟨(some 2),none,.mov (.t 7)⟩]) (.ret)))
def vO(s:St)(sz len:Nat):Option (List AV)→AR|some cs=>if cs.all bk then .val (.gs s.heap.length 0 0 len len sz true) (s.push cs)else .stuck|none=>.stuck
theorem yX(gl:Bool)(s:St)(sz len:Nat)(z:List AV)(ps:List (Nat×X)):step Γ gl s (.bsl sz len z ps)=vO s sz len (eV (List.replicate len z).flatten (ps.map fun p=>(p.1*sz,sz,s.eval Γ p.2))):=by
  simp only[step,vO];cases eV _ _<;>rfl
def lK(s:St)(sz bytes:Nat)(x:AV):Option (List AV)→Option Nat→Option Nat→AR
  | some ys,some n,some m=>.Al (iW s sz bytes x ys n m)
  | _,_,_=>.stuck
theorem yY(gl:Bool)(s:St)(sz bytes:Nat)(z:List AV)(str:Bool)(x y:X):step Γ gl s (.app sz bytes z str x y)=lK s sz bytes (s.eval Γ x) (cH s sz str (s.eval Γ y)) (lenOf (s.eval Γ y)) (lenOf (s.eval Γ x)):=by
  simp only[step,lK];rfl
theorem AF{l:List (List AV)}(h:∀x∈l,x.all bk=true):l.flatten.all bk=true:=by
  rw[List.all_flatten,List.all_eq_true];exact h
theorem wI{α:Type}{c:α→List AV}{cd:α→List CD}(h:∀x,c x=(cd x).map (CD.av false))(l:List α):(l.map c).flatten=(l.map cd).flatten.map (CD.av false):=by
  have:c=fun x=>(cd x).map (CD.av false):=funext h
  subst this
  simp[List.map_flatten,Function.comp_def]
theorem lU{α:Type}(da:cX P Θ)(hm:P.follows .mixedOrders=true){f:FuncId}{sz bytes:Nat}{z:List AV}(hE:Di P Θ Γ f (ux sz bytes z) [.t 2] [u,u,u,u,u,u,u])
    {β:Bool} {l:List α} {c:α→List AV} {cd:α→List CD} (h0:0<sz) (hb:l.length*(sz+bytes)≤aX) (hd:∀x,(cd x).length=sz∧(cd x).all CD.flat=true) (hcd:∀x,c x=(cd x).map (CD.av false)) {h:AH}:
    T P Γ f [.vs β sz false (l.map c)] h (bc h [.c (.sl sz (l.map cd))]):=by
  have hcl:∀x,(c x).length=sz:=fun x=>by rw[hcd];simpa using(hd x).1
  have hcn:∀x,(c x).all bk=true:=fun x=>by rw[hcd,List.all_map,List.all_eq_true];intro d _;exact d.bk false
  have hnil:T P Γ f [.nils] h (bc h [.c (.sl sz [])]):=by
    refine T.iI (hE (au da hm [] _ _ _ ?_))
    unfold ux
    simp only[EV,EL]
    have:bU .eql .nils .nils .nils=some (.bool true):=rfl
    simp only[EV,EL,this]
    exact⟨rfl,[],[],by simp,.nil _,by simp,by simp⟩
  cases l with
  | nil=>
    simp only[List.map_nil]
    refine T.MV (pre:=[]) (post:=[]) hnil (fun a cp=>?_)
    refine T.iI (hE (au da hm [] _ _ _ ?_))
    unfold ux
    have e1:bU .eql .nils (.opq (.slice (some a) 0 cp)) .nils=some (.bool false):=rfl
    have app:∀e:List AV,iW ⟨e,[],h++[some (0,[])]⟩ sz bytes (.gs h.length 0 0 0 0 sz true) [] 0 0=some (.gs h.length 0 0 0 0 sz true,⟨e,[],h++[some (0,[])]⟩):=by
      intro e
      unfold iW
      rw[if_neg (by omega),if_neg (by omega)]
      simp[bC,over]
    simp only[EV,EL,List.nil_append,e1,yX,List.replicate_zero,List.flatten_nil,List.map_nil,eV,vO,List.all_nil,if_true,yY,cH,St.bl,lenOf,lK,app]
    refine⟨rfl,[some (0,[])],[h.length],rfl,?_,by simp,by simp⟩
    exact bO.sl_mk (xs:=[]) (zas:=[]) (tail:=[]) (by simp[bC]) (by simp) (by simp) (by simp) rfl
  | cons x l=>
    refine T.iI (hE (au da hm [] _ _ _ ?_))
    unfold ux
    have e1:bU .eql .nils (.vs β sz false ((x::l).map c)) .nils=some (.bool false):=rfl
    have hfl:((x::l).map c).flatten.length=(x::l).length*sz:=cY (fun y _=>hcl y)
    have hno:((x::l).map c).flatten.all bk=true:=AF (fun y hy=>by obtain⟨w,_,rfl⟩:=List.mem_map.1 hy;exact hcn w)
    have L1:lenOf (.vs β sz false ((x::l).map c))=some (x::l).length:=by simp[lenOf]
    have L2:∀s:St,cH s sz false (.vs β sz false ((x::l).map c))=some ((x::l).map c).flatten:=fun s=>by simp[cH,St.bl]
    have hln:(x::l).length=l.length+1:=rfl
    have hxs:=wI hcd (x::l)
    generalize (x::l).map c=xs at *
    have app:∀e:List AV,iW ⟨e,[],h++[some (0,[])]⟩ sz bytes (.gs h.length 0 0 0 0 sz true) xs.flatten (x::l).length 0=some (.gs h.length 1 0 (x::l).length (x::l).length sz false,⟨e,[],h++[some (1,xs.flatten)]⟩):=by
      intro e
      unfold iW
      rw[if_neg (by omega),if_neg (by rw[Nat.zero_add];omega)]
      simp only[bC,Option.bind_some,if_true,hno]
      rw[if_neg (by omega)]
      simp[sub]
    simp only[EV,EL,e1,yX,List.replicate_zero,List.flatten_nil,List.map_nil,eV,vO,List.all_nil,if_true,yY,L1,L2,show ∀b g off cap:Nat,∀ex,lenOf (.gs b g off 0 cap sz ex)=some 0 from fun _ _ _ _ _=>rfl,lK,app]
    refine⟨rfl,[some (1,xs.flatten)],[h.length],rfl,?_,by simp,by simp⟩
    have:=bO.sl_mk (xs:=(x::l).map cd) (sz:=sz) (zas:=xs.flatten) (tail:=[]) (h:=h++[some (1,xs.flatten)]) (b:=h.length) (g:=1) (cap:=(x::l).length) (ex:=false) (fp:=[]) (by rw[List.append_nil];exact bC _ _) (fun m hm=>by obtain⟨y,_,rfl⟩:=List.mem_map.1 hm;exact(hd y).1) (by simp) (by simp)
      (by rw[hxs];exact kg false (by rw[List.all_flatten,List.all_eq_true];intro m hm;obtain⟨y,_,rfl⟩:=List.mem_map.1 hm;exact(hd y).2))
    simpa using this
end
end Go.AM
namespace Go.AM
section
variable {P:Program} {Θ:jL} {Γ:bG}
def xH:List AV→Nat→List AV→Option (List AV)
  | z,0,[]=>some z
  | _::z,0,x::vs=>(xH z 0 vs).map (x :: ·)
  | a::z,n+1,vs=>(xH z n vs).map (a :: ·)
  | [],0,_::_=>none
  | [],_+1,_=>none
theorem oZ:∀(z:List AV) (o:Nat) (vs z':List AV),xH z o vs=some z'→o+vs.length≤z.length∧z'=over z o vs
  | z,0,[],z',h=>by simp[xH]at h;subst h;simp[over]
  | a::z,0,x::vs,z',h=>by
    simp only[xH,Option.map_eq_some_iff]at h
    obtain⟨y,h1,rfl⟩:=h
    obtain⟨h2,rfl⟩:=oZ z 0 vs y h1
    refine⟨by simp at h2 ⊢;omega,?_⟩
    simp[over]
  | a::z,n+1,vs,z',h=>by
    simp only[xH,Option.map_eq_some_iff]at h
    obtain⟨y,h1,rfl⟩:=h
    obtain⟨h2,rfl⟩:=oZ z n vs y h1
    refine⟨by simp;omega,?_⟩
    simp[over,show n+1+vs.length=(n+vs.length)+1 by omega]
  | [],0,_::_,_,h=>by simp[xH]at h
  | [],_+1,_,_,h=>by simp[xH]at h
theorem Nq(z:List AV):xH z 0 []=some z:=by cases z<;>rfl
theorem TR(a x:AV)(z vs:List AV):xH (a::z) 0 (x::vs)=(xH z 0 vs).map (x :: ·):=rfl
theorem Nb(a:AV)(z vs:List AV)(n:Nat):xH (a::z) (n+1) vs=(xH z n vs).map (a :: ·):=rfl
def VK(f:List AV→Option (List AV))(alt:Option (List AV)):Option (List AV)→Option (List AV)|some z=>f z|none=>alt
def oK(z:List AV)(off:Nat)(cs:List AV)(rest:List (Nat×Nat×AV)):Option (List AV):=if off+cs.length≤z.length then eV (over z off cs) rest else none
def yJ(z:List AV)(off size:Nat)(rest:List (Nat×Nat×AV)):Option (List AV)→Option (List AV)
  | some cs=>if cs.length=size then oK z off cs rest else none
  | none=>none
theorem ji(z:List AV):eV z []=some z:=rfl
theorem Lm(z:List AV)(off size:Nat)(v:AV)(rest:List (Nat×Nat×AV)):eV z ((off,size,v)::rest)=yJ z off size rest (cellsOf v):=by
  simp only[eV,yJ,oK];cases cellsOf v<;>rfl
theorem Sv(z:List AV)(off size:Nat)(rest:List (Nat×Nat×AV))(cs:List AV):yJ z off size rest (some cs)=if cs.length=size then VK (fun z'=>eV z' rest) (oK z off cs rest) (xH z off cs)else none:=by
  simp only[yJ]
  split
  · cases h:xH z off cs with
    | none=>rfl
    | some z'=>
      obtain⟨h1,h2⟩:=oZ _ _ _ _ h
      simp only[oK,if_pos h1,VK,h2]
  · rfl
theorem Hu(f:List AV→Option (List AV))(alt:Option (List AV))(z:List AV):VK f alt (some z)=f z:=rfl
theorem dc(gl:Bool)(s:St)(z:List AV)(ps:List (Nat×Nat×X)):step Γ gl s (.build z ps)=.eI s ((eV z (ps.map fun p=>(p.1,p.2.1,s.eval Γ p.2.2))).map .agg):=rfl
theorem jg{α β:Type}(f:α→β):List.map f []=[]:=rfl
theorem OE{α β:Type}(f:α→β)(x:α)(xs:List α):List.map f (x::xs)=f x::List.map f xs:=rfl
theorem J6(e:List AV)(l:List (List AV))(h:AH)(sz len:Nat)(cs:List AV)(hc:cs.all bk=true):vO ⟨e,l,h⟩ sz len (some cs)=.val (.gs h.length 0 0 len len sz true) ⟨e,l,h++[some (0,cs)]⟩:=by simp[vO,hc,St.push]
theorem aE(a b:Int):(a == b)=decide (a=b):=by by_cases h:a=b<;>simp[h]
def xG(p:AV)(off:Nat):AV:=match p with|.gp b g o=>.gp b g (o+off)|.ip β cs=>.ip β (cs.drop off)|x=>x
structure Ptr (H:AH) (p:AV) (cs:List AV):Prop where
  nil:isNil p=some false
  out:bX p=true
  n1:cB p=true
  fld:∀off,mz off p=some (xG p off)
  rd:∀(e:List AV) (l:List (List AV)) (off n:Nat),off+(n+1)≤cs.length→(St.mk e l H).cells (xG p off) (n+1)=sub cs off (n+1)
  rd0:∀(e:List AV) (l:List (List AV)) (n:Nat),n+1≤cs.length→(St.mk e l H).cells p (n+1)=sub cs 0 (n+1)
theorem Ptr.ip(H:AH)(β:Bool)(cs:List AV):Ptr H (.ip β cs) cs:=by
  refine⟨rfl,rfl,rfl,fun _=>rfl,fun e l off n hn=>?_,fun e l n hn=>rfl⟩
  simp only[xG,St.cells,sub,Nat.zero_add,List.length_drop,List.drop_zero]
  rw[if_pos (by omega),if_pos hn]
theorem Ptr.gp{H:AH}{b g o:Nat}{cells cs:List AV}(h:bA H b=some (g,cells))(hc:∀n,n≤cs.length→∀off,off+n≤cs.length→sub cells (o+off) n=sub cs off n):Ptr H (.gp b g o) cs:=by
  refine⟨rfl,rfl,rfl,fun _=>rfl,fun e l off n hn=>?_,fun e l n hn=>?_⟩
  · simp only[xG,St.cells,h,Option.bind_some,if_true];exact hc _ (by omega) off hn
  · simp only[St.cells,h,Option.bind_some,if_true];simpa using hc _ hn 0 (by omega)
theorem Ptr.V3{H:AH}{b g:Nat}{cs:List AV}(h:bA H b=some (g,cs)):Ptr H (.gp b g 0) cs:=Ptr.gp h (fun n _ off _=>by rw[Nat.zero_add])
def KW(s:St)(v:AV):Option Bool→AR|some false=>.val v s|_=>.stuck
theorem vK(gl:Bool)(s:St)(x:X):step Γ gl s (.nilchk x)=KW s (s.eval Γ x) (isNil (s.eval Γ x)):=by
  simp only[step,KW];split<;>simp_all
theorem IA(s:St)(v:AV):KW s v (some false)=.val v s:=rfl
theorem wg(β:Bool)(cs:List AV):isNil (.ip β cs)=some false:=rfl
theorem xj(b g o:Nat):isNil (.gp b g o)=some false:=rfl
theorem vT(i o:Nat):isNil (.lp i o)=some false:=rfl
theorem Fa:bU .eql .nilp .nilp .nilp=some (.bool true):=rfl
theorem Gw(β:Bool)(cs:List AV):bU .eql .nilp (.ip β cs) .nilp=some (.bool false):=rfl
theorem Jq(b g o:Nat):bU .eql .nilp (.gp b g o) .nilp=some (.bool false):=rfl
theorem IU:bU .neq .nilp .nilp .nilp=some (.bool false):=rfl
theorem Gt(β:Bool)(cs:List AV):bU .neq .nilp (.ip β cs) .nilp=some (.bool true):=rfl
theorem HG(b g o:Nat):bU .neq .nilp (.gp b g o) .nilp=some (.bool true):=rfl
theorem JK(β:Bool)(cs:List AV):cellsOf (.ip β cs)=some [.ip β cs]:=rfl
theorem HY(b g o:Nat):cellsOf (.gp b g o)=some [.gp b g o]:=rfl
theorem FJ(β:Bool)(sz:Nat)(ex:Bool)(xs:List (List AV)):b8 (.vs β sz ex xs)=true:=rfl
theorem Gg(β:Bool)(cs:List AV):b8 (.ip β cs)=true:=rfl
theorem Ir(b g o:Nat):b8 (.gp b g o)=true:=rfl
theorem JO:b8 .nilp=true:=rfl
theorem GF:b8 .nils=true:=rfl
end
theorem EF:type_of% (And.intro @Nq (And.intro @TR (And.intro @Nb (And.intro @ji (And.intro @Lm (And.intro @Sv (And.intro @Hu (And.intro @dc (And.intro @jg (And.intro @OE (And.intro @yX (((((And.intro @vK (And.intro @IA (And.intro @wg (And.intro @xj (And.intro @vT (And.intro @Fa (And.intro @Gw (And.intro @Jq (And.intro @IU (And.intro @Gt (And.intro @HG (And.intro @JK (And.intro @HY (And.intro @FJ (And.intro @Gg (And.intro @Ir (And.intro @JO (@GF))))))))))))))))))))))))))))))))):=And.intro @Nq (And.intro @TR (And.intro @Nb (And.intro @ji (And.intro @Lm (And.intro @Sv (And.intro @Hu (And.intro @dc (And.intro @jg (And.intro @OE (And.intro @yX (((((And.intro @vK (And.intro @IA (And.intro @wg (And.intro @xj (And.intro @vT (And.intro @Fa (And.intro @Gw (And.intro @Jq (And.intro @IU (And.intro @Gt (And.intro @HG (And.intro @JK (And.intro @HY (And.intro @FJ (And.intro @Gg (And.intro @Ir (And.intro @JO (@GF))))))))))))))))))))))))))))))))
theorem EZ:type_of% (And.intro EV (And.intro EL (And.intro EB (And.intro EF (And.intro @Bool.false_eq_true (And.intro @Bool.not_true (And.intro @Bool.not_false (And.intro @if_true.{1} (And.intro @if_false.{1} (@Option.bind_some.{0,0})))))))))):=And.intro EV (And.intro EL (And.intro EB (And.intro EF (And.intro @Bool.false_eq_true (And.intro @Bool.not_true (And.intro @Bool.not_false (And.intro @if_true.{1} (And.intro @if_false.{1} (@Option.bind_some.{0,0})))))))))
end Go.AM
namespace Go.AM
theorem Yp(e:List AV)(L zs:List (List AV))(a b d e z:List AV)(h:AH)(off n0:Nat):(St.mk e (L++a::b::d::e::z::zs) h).cells (.lp (L.length+4) off) n0=sub z off n0:=bT (i:=4) rfl
theorem Ys(e:List AV)(L zs:List (List AV))(a b d e z:List AV)(h:AH)(off:Nat)(vs:List AV):(St.mk e (L++a::b::d::e::z::zs) h).store (.lp (L.length+4) off) vs=gw (fun z'=>⟨e,L++a::b::d::e::z'::zs,h⟩) (dY ⟨e,L++a::b::d::e::z::zs,h⟩ (.lp (L.length+4) off) vs) (jz z off vs):=
  cC fun _ hs=>bS (i:=4) rfl hs
theorem Yk(L:List (List AV))(a b d e:List AV):(L++[a,b,d,e]).length=L.length+4:=by simp
theorem XS(L:List (List AV))(a b d e z:List AV):(L++[a,b,d,e])++[z]=L++[a,b,d,e,z]:=by simp
theorem YK(e:List AV)(L zs:List (List AV))(a b d e f z:List AV)(h:AH)(off n0:Nat):(St.mk e (L++a::b::d::e::f::z::zs) h).cells (.lp (L.length+5) off) n0=sub z off n0:=bT (i:=5) rfl
theorem Yj(e:List AV)(L zs:List (List AV))(a b d e f z:List AV)(h:AH)(off:Nat)(vs:List AV):(St.mk e (L++a::b::d::e::f::z::zs) h).store (.lp (L.length+5) off) vs=gw (fun z'=>⟨e,L++a::b::d::e::f::z'::zs,h⟩) (dY ⟨e,L++a::b::d::e::f::z::zs,h⟩ (.lp (L.length+5) off) vs) (jz z off vs):=
  cC fun _ hs=>bS (i:=5) rfl hs
theorem Yb(L:List (List AV))(a b d e f:List AV):(L++[a,b,d,e,f]).length=L.length+5:=by simp
theorem X8(L:List (List AV))(a b d e f z:List AV):(L++[a,b,d,e,f])++[z]=L++[a,b,d,e,f,z]:=by simp
theorem XO(e:List AV)(L zs:List (List AV))(a b d e f g z:List AV)(h:AH)(off n0:Nat):(St.mk e (L++a::b::d::e::f::g::z::zs) h).cells (.lp (L.length+6) off) n0=sub z off n0:=bT (i:=6) rfl
theorem Ym(e:List AV)(L zs:List (List AV))(a b d e f g z:List AV)(h:AH)(off:Nat)(vs:List AV):(St.mk e (L++a::b::d::e::f::g::z::zs) h).store (.lp (L.length+6) off) vs=gw (fun z'=>⟨e,L++a::b::d::e::f::g::z'::zs,h⟩) (dY ⟨e,L++a::b::d::e::f::g::z::zs,h⟩ (.lp (L.length+6) off) vs) (jz z off vs):=
  cC fun _ hs=>bS (i:=6) rfl hs
theorem X2(L:List (List AV))(a b d e f g:List AV):(L++[a,b,d,e,f,g]).length=L.length+6:=by simp
theorem XF(L:List (List AV))(a b d e f g z:List AV):(L++[a,b,d,e,f,g])++[z]=L++[a,b,d,e,f,g,z]:=by simp
theorem XZ(e:List AV)(L zs:List (List AV))(a b d e f g i z:List AV)(h:AH)(off n0:Nat):(St.mk e (L++a::b::d::e::f::g::i::z::zs) h).cells (.lp (L.length+7) off) n0=sub z off n0:=bT (i:=7) rfl
theorem XM(e:List AV)(L zs:List (List AV))(a b d e f g i z:List AV)(h:AH)(off:Nat)(vs:List AV):(St.mk e (L++a::b::d::e::f::g::i::z::zs) h).store (.lp (L.length+7) off) vs=gw (fun z'=>⟨e,L++a::b::d::e::f::g::i::z'::zs,h⟩) (dY ⟨e,L++a::b::d::e::f::g::i::z::zs,h⟩ (.lp (L.length+7) off) vs) (jz z off vs):=
  cC fun _ hs=>bS (i:=7) rfl hs
theorem Yl(L:List (List AV))(a b d e f g i:List AV):(L++[a,b,d,e,f,g,i]).length=L.length+7:=by simp
theorem Yt(L:List (List AV))(a b d e f g i z:List AV):(L++[a,b,d,e,f,g,i])++[z]=L++[a,b,d,e,f,g,i,z]:=by simp
theorem XE(e:List AV)(L zs:List (List AV))(a b d e f g i j z:List AV)(h:AH)(off n0:Nat):(St.mk e (L++a::b::d::e::f::g::i::j::z::zs) h).cells (.lp (L.length+8) off) n0=sub z off n0:=bT (i:=8) rfl
theorem Yu(e:List AV)(L zs:List (List AV))(a b d e f g i j z:List AV)(h:AH)(off:Nat)(vs:List AV):(St.mk e (L++a::b::d::e::f::g::i::j::z::zs) h).store (.lp (L.length+8) off) vs=gw (fun z'=>⟨e,L++a::b::d::e::f::g::i::j::z'::zs,h⟩) (dY ⟨e,L++a::b::d::e::f::g::i::j::z::zs,h⟩ (.lp (L.length+8) off) vs) (jz z off vs):=
  cC fun _ hs=>bS (i:=8) rfl hs
theorem Yv(L:List (List AV))(a b d e f g i j:List AV):(L++[a,b,d,e,f,g,i,j]).length=L.length+8:=by simp
theorem X6(L:List (List AV))(a b d e f g i j z:List AV):(L++[a,b,d,e,f,g,i,j])++[z]=L++[a,b,d,e,f,g,i,j,z]:=by simp
theorem XP(e:List AV)(L zs:List (List AV))(a b d e f g i j k z:List AV)(h:AH)(off n0:Nat):(St.mk e (L++a::b::d::e::f::g::i::j::k::z::zs) h).cells (.lp (L.length+9) off) n0=sub z off n0:=bT (i:=9) rfl
theorem XU(e:List AV)(L zs:List (List AV))(a b d e f g i j k z:List AV)(h:AH)(off:Nat)(vs:List AV):(St.mk e (L++a::b::d::e::f::g::i::j::k::z::zs) h).store (.lp (L.length+9) off) vs=gw (fun z'=>⟨e,L++a::b::d::e::f::g::i::j::k::z'::zs,h⟩) (dY ⟨e,L++a::b::d::e::f::g::i::j::k::z::zs,h⟩ (.lp (L.length+9) off) vs) (jz z off vs):=
  cC fun _ hs=>bS (i:=9) rfl hs
theorem YF(L:List (List AV))(a b d e f g i j k:List AV):(L++[a,b,d,e,f,g,i,j,k]).length=L.length+9:=by simp
theorem Yn(L:List (List AV))(a b d e f g i j k z:List AV):(L++[a,b,d,e,f,g,i,j,k])++[z]=L++[a,b,d,e,f,g,i,j,k,z]:=by simp
theorem QC(e:List AV)(L zs:List (List AV))(a b d e f g i j k m z:List AV)(h:AH)(off n0:Nat):(St.mk e (L++a::b::d::e::f::g::i::j::k::m::z::zs) h).cells (.lp (L.length+10) off) n0=sub z off n0:=bT (i:=10) rfl
theorem Qc(e:List AV)(L zs:List (List AV))(a b d e f g i j k m z:List AV)(h:AH)(off:Nat)(vs:List AV):(St.mk e (L++a::b::d::e::f::g::i::j::k::m::z::zs) h).store (.lp (L.length+10) off) vs=gw (fun z'=>⟨e,L++a::b::d::e::f::g::i::j::k::m::z'::zs,h⟩) (dY ⟨e,L++a::b::d::e::f::g::i::j::k::m::z::zs,h⟩ (.lp (L.length+10) off) vs) (jz z off vs):=
  cC fun _ hs=>bS (i:=10) rfl hs
theorem PE(L:List (List AV))(a b d e f g i j k m:List AV):(L++[a,b,d,e,f,g,i,j,k,m]).length=L.length+10:=by simp
theorem LI(L:List (List AV))(a b d e f g i j k m z:List AV):(L++[a,b,d,e,f,g,i,j,k,m])++[z]=L++[a,b,d,e,f,g,i,j,k,m,z]:=by simp
theorem Lw(e:List AV)(L zs:List (List AV))(a b d e f g i j k m n z:List AV)(h:AH)(off n0:Nat):(St.mk e (L++a::b::d::e::f::g::i::j::k::m::n::z::zs) h).cells (.lp (L.length+11) off) n0=sub z off n0:=bT (i:=11) rfl
theorem NO(e:List AV)(L zs:List (List AV))(a b d e f g i j k m n z:List AV)(h:AH)(off:Nat)(vs:List AV):(St.mk e (L++a::b::d::e::f::g::i::j::k::m::n::z::zs) h).store (.lp (L.length+11) off) vs=gw (fun z'=>⟨e,L++a::b::d::e::f::g::i::j::k::m::n::z'::zs,h⟩) (dY ⟨e,L++a::b::d::e::f::g::i::j::k::m::n::z::zs,h⟩ (.lp (L.length+11) off) vs) (jz z off vs):=
  cC fun _ hs=>bS (i:=11) rfl hs
theorem P8(L:List (List AV))(a b d e f g i j k m n:List AV):(L++[a,b,d,e,f,g,i,j,k,m,n]).length=L.length+11:=by simp
theorem Pn(L:List (List AV))(a b d e f g i j k m n z:List AV):(L++[a,b,d,e,f,g,i,j,k,m,n])++[z]=L++[a,b,d,e,f,g,i,j,k,m,n,z]:=by simp
theorem Pe(e:List AV)(L zs:List (List AV))(a b d e f g i j k m n o z:List AV)(h:AH)(off n0:Nat):(St.mk e (L++a::b::d::e::f::g::i::j::k::m::n::o::z::zs) h).cells (.lp (L.length+12) off) n0=sub z off n0:=bT (i:=12) rfl
theorem Rb(e:List AV)(L zs:List (List AV))(a b d e f g i j k m n o z:List AV)(h:AH)(off:Nat)(vs:List AV):(St.mk e (L++a::b::d::e::f::g::i::j::k::m::n::o::z::zs) h).store (.lp (L.length+12) off) vs=gw (fun z'=>⟨e,L++a::b::d::e::f::g::i::j::k::m::n::o::z'::zs,h⟩) (dY ⟨e,L++a::b::d::e::f::g::i::j::k::m::n::o::z::zs,h⟩ (.lp (L.length+12) off) vs) (jz z off vs):=
  cC fun _ hs=>bS (i:=12) rfl hs
theorem NF(L:List (List AV))(a b d e f g i j k m n o:List AV):(L++[a,b,d,e,f,g,i,j,k,m,n,o]).length=L.length+12:=by simp
theorem RE(L:List (List AV))(a b d e f g i j k m n o z:List AV):(L++[a,b,d,e,f,g,i,j,k,m,n,o])++[z]=L++[a,b,d,e,f,g,i,j,k,m,n,o,z]:=by simp
theorem ON(e:List AV)(L zs:List (List AV))(a b d e f g i j k m n o p z:List AV)(h:AH)(off n0:Nat):(St.mk e (L++a::b::d::e::f::g::i::j::k::m::n::o::p::z::zs) h).cells (.lp (L.length+13) off) n0=sub z off n0:=bT (i:=13) rfl
theorem T6(e:List AV)(L zs:List (List AV))(a b d e f g i j k m n o p z:List AV)(h:AH)(off:Nat)(vs:List AV):(St.mk e (L++a::b::d::e::f::g::i::j::k::m::n::o::p::z::zs) h).store (.lp (L.length+13) off) vs=gw (fun z'=>⟨e,L++a::b::d::e::f::g::i::j::k::m::n::o::p::z'::zs,h⟩) (dY ⟨e,L++a::b::d::e::f::g::i::j::k::m::n::o::p::z::zs,h⟩ (.lp (L.length+13) off) vs) (jz z off vs):=
  cC fun _ hs=>bS (i:=13) rfl hs
theorem SP(L:List (List AV))(a b d e f g i j k m n o p:List AV):(L++[a,b,d,e,f,g,i,j,k,m,n,o,p]).length=L.length+13:=by simp
theorem LQ(L:List (List AV))(a b d e f g i j k m n o p z:List AV):(L++[a,b,d,e,f,g,i,j,k,m,n,o,p])++[z]=L++[a,b,d,e,f,g,i,j,k,m,n,o,p,z]:=by simp
theorem bo:type_of% (And.intro @Yp (And.intro @Ys (And.intro @Yk (And.intro @XS (And.intro @YK (And.intro @Yj (And.intro @Yb (And.intro @X8 (And.intro @XO (And.intro @Ym (And.intro @X2 (And.intro @XF (And.intro @XZ (And.intro @XM (And.intro @Yl (And.intro @Yt (And.intro @XE (And.intro @Yu (And.intro @Yv (And.intro @X6 (And.intro @XP (And.intro @XU (And.intro @YF (And.intro @Yn (And.intro @QC (And.intro @Qc (And.intro @PE (And.intro @LI (And.intro @Lw (And.intro @NO (And.intro @P8 (And.intro @Pn (And.intro @Pe (And.intro @Rb (And.intro @NF (And.intro @RE (And.intro @ON (And.intro @T6 (And.intro @SP (@LQ)))))))))))))))))))))))))))))))))))))))):=(And.intro @Yp (And.intro @Ys (And.intro @Yk (And.intro @XS (And.intro @YK (And.intro @Yj (And.intro @Yb (And.intro @X8 (And.intro @XO (And.intro @Ym (And.intro @X2 (And.intro @XF (And.intro @XZ (And.intro @XM (And.intro @Yl (And.intro @Yt (And.intro @XE (And.intro @Yu (And.intro @Yv (And.intro @X6 (And.intro @XP (And.intro @XU (And.intro @YF (And.intro @Yn (And.intro @QC (And.intro @Qc (And.intro @PE (And.intro @LI (And.intro @Lw (And.intro @NO (And.intro @P8 (And.intro @Pn (And.intro @Pe (And.intro @Rb (And.intro @NF (And.intro @RE (And.intro @ON (And.intro @T6 (And.intro @SP (@LQ))))))))))))))))))))))))))))))))))))))))
end Go.AM
namespace Go.AM
end Go.AM
namespace Go.AM
theorem dd{h:AH}{b:Nat}{x:Nat×List AV}(e:bA h b=some x):b<h.length:=aK (b6 e)
theorem sH{h:AH}{b:Nat}{x:Nat×List AV}(e:bA h b=some x)(N:AH):bA (h++N) b=some x:=by
  have:=b6 e
  exact vB (by rw[List.getElem?_append_left (aK this)];exact this)
theorem pE{e e':List AV}{l l':List (List AV)}{h:AH}{a:AV}{n:Nat}{x:List AV}(ha:∀i o,a≠.lp i o)(hx:(St.mk e l h).cells a n=some x)(N:AH):(St.mk e' l' (h++N)).cells a n=some x:=by
  cases a<;>simp only[St.cells]at hx ⊢<;>try exact hx
  · exact absurd rfl (ha _ _)
  · rw[Option.bind_eq_some_iff]at hx
    obtain⟨y,h1,h2⟩:=hx
    rw[sH h1];exact h2
theorem Ek{p:AV}(h:cB p=true)(off:Nat):∀i o,xG p off≠.lp i o:=by
  intro i o e;cases p<;>simp[xG,cB]at e h
theorem Ptr.grow{H:AH}{p:AV}{cs:List AV}(h:Ptr H p cs)(N:AH):Ptr (H++N) p cs:=by
  refine⟨h.nil,h.out,h.n1,h.fld,fun e l off n hn=>?_,fun e l n hn=>?_⟩
  · have h1:=h.rd e l off n hn
    have:sub cs off (n+1)=some ((cs.drop off).take (n+1)):=by simp only[sub];rw[if_pos hn]
    rw[this]at h1 ⊢
    exact pE (Ek h.n1 off) h1 N
  · have h1:=h.rd0 e l n hn
    have:sub cs 0 (n+1)=some ((cs.drop 0).take (n+1)):=by simp only[sub];rw[if_pos (by omega)]
    rw[this]at h1 ⊢
    exact pE (by intro i o e;subst e;have:=h.n1;simp[cB]at this) h1 N
end Go.AM
namespace Go.AM
section
variable {P:Program} {Θ:jL} {Γ:bG}
theorem Rp(f:RS→Option AV):List.mapM f []=some []:=rfl
theorem Qo(f:RS→Option AV)(x:RS)(xs:List RS):List.mapM f (x::xs)=(f x).bind fun y=>(List.mapM f xs).map (y :: ·):=by
  rw[List.mapM_cons];cases f x<;>simp
  cases List.mapM f xs<;>simp
theorem S6(vs:List AV):cR (.tup vs)=vs.all bX:=rfl
def xn(s:St)(i:Nat):AV→AR|.tup vs=>.eI s vs[i]? | _=>.stuck
theorem y8(gl:Bool)(s:St)(x:X)(i:Nat):step Γ gl s (.extr x i)=xn s i (s.eval Γ x):=by
  simp only[step,xn];cases s.eval Γ x<;>rfl
theorem JT(s:St)(v:AV)(vs:List AV):xn s 0 (.tup (v::vs))=.val v s:=rfl
theorem Gk(s:St)(a v:AV)(vs:List AV):xn s 1 (.tup (a::v::vs))=.val v s:=rfl
theorem Gh(s:St)(a b v:AV)(vs:List AV):xn s 2 (.tup (a::b::v::vs))=.val v s:=rfl
end
theorem ER:type_of% (And.intro @Rp (And.intro @Qo (And.intro @S6 (And.intro @y8 (And.intro @JT (And.intro @Gk (@Gh))))))):=And.intro @Rp (And.intro @Qo (And.intro @S6 (And.intro @y8 (And.intro @JT (And.intro @Gk (@Gh))))))
end Go.AM
namespace Go.AM
def dF{α:Type}(f:α→Int→α)(c:α→Int):List α→Int→List α
  | [],_=>[]
  | x::r,k=>f x k::dF f c r (k+c x)
def ar{α:Type}(c:α→Int):List α→Int
  | []=>0
  | x::r=>c x+ar c r
theorem ca{α:Type}{f:α→Int→α}{c:α→Int}:∀{l:List α} {k:Int},(dF f c l k).length=l.length
  | [],_=>rfl
  | x::r,k=>by simp[dF,ca (l:=r)]
theorem qx{α:Type}(c:α→Int):∀(l m:List α),ar c (l++m)=ar c l+ar c m
  | [],m=>by simp[ar]
  | x::r,m=>by simp[ar,qx c r m];omega
theorem zA{α:Type}(f:α→Int→α)(c:α→Int):∀(l m:List α) (k:Int),dF f c (l++m) k=dF f c l k++dF f c m (k+ar c l)
  | [],m,k=>by simp[dF,ar]
  | x::r,m,k=>by simp[dF,ar,zA f c r m,Int.add_assoc]
theorem aT{α:Type}{c:α→Int}(h:∀x,0≤c x):∀(l:List α),0≤ar c l
  | []=>by simp[ar]
  | x::r=>by have:=h x;have:=aT h r;simp[ar];omega
theorem cg{α:Type}(c:α→Int){l:List α}{j:Nat}(h:j<l.length):ar c (l.take (j+1))=ar c (l.take j)+c l[j]:=by
  rw[List.take_succ_eq_append_getElem h,qx];simp[ar]
theorem dy{α:Type}{c:α→Int}(h:∀x,0≤c x){l:List α}{j:Nat}(hj:j<l.length):ar c (l.take j)+c l[j]≤ar c l:=by
  have e:l=l.take (j+1)++l.drop (j+1):=(List.take_append_drop _ _).symm
  have h1:=cg c hj
  have h2:=aT h (l.drop (j+1))
  have h3:=congrArg (ar c) e
  rw[qx]at h3
  omega
theorem bF{α:Type}{c:α→Int}{C:Int}:∀{l:List α},(∀x∈l,c x≤C)→ar c l≤C*l.length
  | [],_=>by simp[ar]
  | x::r,h=>by
    have h1:=h x (by simp);have h2:=bF (l:=r) fun y hy=>h y (by simp[hy])
    simp only[ar,List.length_cons]
    have:C*((r.length+1:Nat):Int)=C*r.length+C:=by rw[Int.natCast_add,Int.mul_add];simp
    omega
theorem fK{α:Type}(f:α→Int→α)(c:α→Int){l:List α}{j:Nat}(h:j<l.length)(k:Int):dF f c (l.take (j+1)) k=dF f c (l.take j) k++[f l[j] (k+ar c (l.take j))]:=by
  rw[List.take_succ_eq_append_getElem h,zA];simp[dF]
theorem gn{α:Type}(f:α→Int→α)(c:α→Int):∀{l:List α} {j:Nat} (h:j<l.length) (k:Int),(dF f c l k)[j]? = some (f l[j] (k+ar c (l.take j)))
  | x::r,0,_,k=>by simp[dF,ar]
  | x::r,j+1,h,k=>by
    have:=gn f c (l:=r) (j:=j) (by simpa using h) (k+c x)
    simp[dF,ar,this,Int.add_assoc]
def zN:List AV→Nat→List AV→Option (List AV)
  | z,0,[]=>some z
  | _::z,0,x::vs=>if bk x=true then (zN z 0 vs).map (x :: ·)else none
  | a::z,n+1,vs=>(zN z n vs).map (a :: ·)
  | [],0,_::_=>none
  | [],_+1,_=>none
theorem qz:∀(z:List AV) (o:Nat) (vs z':List AV),zN z o vs=some z'→o+vs.length≤z.length∧vs.all bk=true∧z'=over z o vs
  | z,0,[],z',h=>by simp[zN]at h;subst h;simp[over]
  | a::z,0,x::vs,z',h=>by
    simp only[zN]at h
    split at h
    · rename_i hx
      rw[Option.map_eq_some_iff]at h
      obtain⟨y,h1,rfl⟩:=h
      obtain⟨h2,h3,rfl⟩:=qz z 0 vs y h1
      refine⟨by simp at h2 ⊢;omega,by simp[hx,h3],?_⟩
      simp[over]
    · cases h
  | a::z,n+1,vs,z',h=>by
    simp only[zN,Option.map_eq_some_iff]at h
    obtain⟨y,h1,rfl⟩:=h
    obtain⟨h2,h3,rfl⟩:=qz z n vs y h1
    refine⟨by simp;omega,h3,?_⟩
    simp[over,show n+1+vs.length=(n+vs.length)+1 by omega]
  | [],0,_::_,_,h=>by simp[zN]at h
  | [],_+1,_,_,h=>by simp[zN]at h
theorem SN(z:List AV):zN z 0 []=some z:=by cases z<;>rfl
theorem Q3(a x:AV)(z vs:List AV):zN (a::z) 0 (x::vs)=if bk x=true then (zN z 0 vs).map (x :: ·)else none:=rfl
theorem QP(a:AV)(z vs:List AV)(n:Nat):zN (a::z) (n+1) vs=(zN z n vs).map (a :: ·):=rfl
theorem Bk{pre cs post vs:List AV}{off:Nat}(h:off+vs.length≤cs.length):over (pre++(cs++post)) (pre.length+off) vs=pre++(over cs off vs++post):=by
  simp only[over]
  rw[List.take_append,List.take_of_length_le (by omega),show pre.length+off-pre.length=off by omega,List.take_append_of_le_length (by omega)]
  rw[List.drop_append,List.drop_of_length_le (by omega),List.nil_append,show pre.length+off+vs.length-pre.length=off+vs.length by omega,List.drop_append_of_le_length h]
  simp
theorem Eu{pre cs post:List AV}{off n:Nat}(h:off+n≤cs.length):sub (pre++(cs++post)) (pre.length+off) n=sub cs off n:=by
  simp only[sub]
  rw[if_pos (by simp;omega),if_pos h]
  rw[List.drop_append,List.drop_of_length_le (by omega),List.nil_append,show pre.length+off-pre.length=off by omega,List.drop_append_of_le_length (by omega),List.take_append_of_le_length (by simp;omega)]
def qI(cs post:List AV):List AV:=cs++post
theorem fR{h1 h2:AH}{b g n0:Nat}{pre post:List AV}(hb:h1.length=b)(hn:pre.length=n0)(e:List AV)(l:List (List AV))(cs:List AV)(off:Nat)(vs:List AV):
    (St.mk e l (h1++some (g,pre++qI cs post)::h2)).store (.gp b g (n0+off)) vs=gw (fun cs'=>⟨e,l,h1++some (g,pre++qI cs' post)::h2⟩) (dY ⟨e,l,h1++some (g,pre++qI cs post)::h2⟩ (.gp b g (n0+off)) vs) (zN cs off vs):=by
  subst hb hn
  refine cC fun z hz=>?_
  obtain⟨h1',h2',rfl⟩:=qz _ _ _ _ hz
  unfold qI
  rw[rZ (by simp;omega) h2',Bk h1']
def YB(alt:Option (List AV)):Option (List AV)→Option (List AV)|some x=>some x|none=>alt
theorem NT(alt:Option (List AV))(x:List AV):YB alt (some x)=some x:=rfl
theorem fP{h1 h2:AH}{b g n0:Nat}{pre post:List AV}(hb:h1.length=b)(hn:pre.length=n0)(e:List AV)(l:List (List AV))(cs:List AV)(off n:Nat):
    (St.mk e l (h1++some (g,pre++qI cs post)::h2)).cells (.gp b g (n0+off)) n=YB (sub (pre++qI cs post) (n0+off) n) (sub cs off n):=by
  subst hb hn
  have e1:(St.mk e l (h1++some (g,pre++qI cs post)::h2)).cells (.gp h1.length g (pre.length+off)) n=sub (pre++qI cs post) (pre.length+off) n:=by
    simp only[St.cells,lD,Option.bind_some,if_true]
  rw[e1]
  cases hs:sub cs off n with
  | none=>rfl
  | some x=>
    have:off+n≤cs.length:=by simp only[sub]at hs;split at hs;assumption;cases hs
    unfold qI;rw[Eu this,hs];rfl
theorem gP{H:AH}{b:Nat}{x:Nat×List AV}(h:bA H b=some x):∃h1 h2,H=h1++some x::h2∧h1.length=b:=by
  have hs:=b6 h
  have hlt:=aK hs
  refine⟨H.take b,H.drop (b+1),?_,by simp;omega⟩
  conv=>lhs;rw[←List.take_append_drop b H,List.drop_eq_getElem_cons hlt]
  rw[List.getElem?_eq_getElem hlt]at hs
  injection hs with hs
  rw[hs]
theorem dC{h1 h2:AH}{b:Nat}{x:Nat×List AV}(hb:h1.length=b):bA (h1++some x::h2) b=some x:=by subst hb;exact lD _ _ _
theorem dB{h1 h2:AH}{b c:Nat}{x y:Option (Nat×List AV)}(hb:h1.length=b)(hc:c≠b):(h1++x::h2)[c]? = (h1++y::h2)[c]?:=by subst hb;exact xu hc
structure ga (H:AH) (b g:Nat) (tail:List AV) (fp:List Nat) {α:Type} (cd:α→List CD) (l m:List α) (H':AH) (as1 as2:List AV) (f1 f2:List Nat):Prop where
  len:H'.length=H.length
  fr:∀c,c≠b→c∉fp→H'[c]? = H[c]?
  blk:bA H' b=some (g,as1++(as2++tail))
  o1:aV H' as1 (m.map cd).flatten f1
  o2:aV H' as2 (l.map cd).flatten f2
  fps:fp=f1++f2
theorem ga.start{H:AH}{b g:Nat}{zas tail:List AV}{fp:List Nat}{α:Type}{cd:α→List CD}{l:List α}(h1:bA H b=some (g,zas++tail))(o:aV H zas (l.map cd).flatten fp):ga H b g tail fp cd l [] H [] zas [] fp:=
  ⟨rfl,fun _ _ _=>rfl,by simpa using h1,rfl,o,rfl⟩
theorem ga.open{H:AH}{b g:Nat}{tail:List AV}{fp:List Nat}{α:Type}{cd:α→List CD}{x:α}{l m:List α}{H':AH}{as1 as2:List AV}{f1 f2:List Nat}(i:ga H b g tail fp cd (x::l) m H' as1 as2 f1 f2):
    ∃h1 h2 cs post fx fr,H'=h1++some (g,as1++(cs++(post++tail)))::h2∧h1.length=b∧as2=cs++post∧f2=fx++fr∧aV H' cs (cd x) fx∧aV H' post (l.map cd).flatten fr:=by
  have o2:=i.o2
  rw[List.map_cons,List.flatten_cons]at o2
  obtain⟨cs,post,fx,fr,rfl,rfl,q1,q2⟩:=o2.split
  have hb:=i.blk
  rw[List.append_assoc]at hb
  obtain⟨h1,h2,e1,e2⟩:=gP hb
  exact⟨h1,h2,cs,post,fx,fr,e1,e2,rfl,rfl,q1,q2⟩
theorem ga.next{H:AH}{b g:Nat}{tail:List AV}{fp:List Nat}{α:Type}{cd:α→List CD}{x y:α}{l m:List α}{H' H2:AH}{as1 cs cs' post:List AV}{f1 fx fr:List Nat}(nd:(b::fp).Nodup)
    (i:ga H b g tail fp cd (x::l) m H' as1 (cs++post) f1 (fx++fr)) (q2:aV H' post (l.map cd).flatten fr)
    (hl:H2.length=H'.length) (hb:bA H2 b=some (g,as1++(cs'++(post++tail)))) (hf:∀c,c≠b→c∉fx→H2[c]? = H'[c]?) (o:aV H2 cs' (cd y) fx):
    ga H b g tail fp cd l (m++[y]) H2 (as1++cs') post (f1++fx) fr:=by
  have hfp:=i.fps
  have ndf:=(List.nodup_cons.1 nd).2
  have hnb:∀c∈fp,c≠b:=fun c hc e=>(List.nodup_cons.1 nd).1 (e▸hc)
  rw[hfp]at ndf
  have hd:=List.nodup_append.1 ndf
  have hd2:=List.nodup_append.1 hd.2.1
  refine⟨hl.trans i.len,fun c hc hn=>?_,by rw[hb,List.append_assoc],?_,q2.frame fun c hc=>hf c (hnb c (by rw[hfp];simp[hc])) (fun e=>hd2.2.2 c e c hc rfl),by rw[hfp,List.append_assoc]⟩
  · rw[hf c hc (fun e=>hn (by rw[hfp];simp[e]))];exact i.fr c hc hn
  · rw[List.map_append,List.flatten_append]
    simp only[List.map_cons,List.map_nil,List.flatten_cons,List.flatten_nil,List.append_nil]
    exact aV.append (i.o1.frame fun c hc=>hf c (hnb c (by rw[hfp];simp[hc])) (fun e=>hd.2.2 c hc c (by simp[e]) rfl)) o
theorem ga.done{H:AH}{b g cap sz n:Nat}{ex:Bool}{tail:List AV}{fp:List Nat}{α:Type}{cd:α→List CD}{m:List α}{H':AH}{as1 as2:List AV}{f1 f2:List Nat}(i:ga H b g tail fp cd [] m H' as1 as2 f1 f2)
    (hm:m.length=n) (h3:∀x,(cd x).length=sz) (ht:∀x∈tail,atom x) (hc:n≤cap∧(cap-n)*sz≤tail.length):H'.length=H.length∧(∀c,c∉b::fp→H'[c]? = H[c]?)∧bO H' (.gs b g 0 n cap sz ex) (.sl sz (m.map cd)) (b::fp):=by
  have o2:=i.o2
  simp only[List.map_nil,List.flatten_nil]at o2
  obtain⟨rfl,e⟩:=cO.1 o2
  subst e
  have hfp:=i.fps
  rw[List.append_nil]at hfp
  subst hfp
  refine⟨i.len,fun c hc=>i.fr c (fun e=>hc (by simp[e])) (fun e=>hc (by simp[e])),?_⟩
  have hb:=i.blk
  rw[List.nil_append]at hb
  have:=bO.sl_mk (xs:=m.map cd) (cap:=cap) (ex:=ex) hb (fun r hr=>by obtain⟨x,_,rfl⟩:=List.mem_map.1 hr;exact h3 x) ht (by simpa[hm]using hc) i.o1
  simpa[hm]using this
theorem eU{H H':AH}{b:Nat}{x:Nat×List AV}(h:bA H b=some x)(e:H'[b]? = H[b]?):bA H' b=some x:=by rw[dJ e];exact h
theorem EM:type_of% (And.intro @SN (And.intro @Q3 (And.intro @QP (And.intro @NT (@Nat.add_assoc))))):=And.intro @SN (And.intro @Q3 (And.intro @QP (And.intro @NT (@Nat.add_assoc))))
end Go.AM
namespace Go.AM
theorem aV.pick{H:AH}{a:AV}{d:CD}:∀{A B:List AV} {D E:List CD} {fp:List Nat},A.length=D.length→aV H (A++a::B) (D++d::E) fp→fp.Nodup→
    ∃gi,bO H a d gi∧gi.Nodup∧(∀c∈gi,c∈fp)∧∀(H2:AH) (d':CD),(∀c,c∉gi→H2[c]? = H[c]?)→bO H2 a d' gi→aV H2 (A++a::B) (D++d'::E) fp
  | [],B,[],E,fp,_,⟨f1,f2,e,o1,o2⟩,nd=>by
    subst e
    have hd:=List.nodup_append.1 nd
    exact⟨f1,o1,hd.1,fun c h=>by simp[h],fun H2 d' hf o=>⟨f1,f2,rfl,o,o2.frame fun c hc=>hf c (fun h=>hd.2.2 c h c hc rfl)⟩⟩
  | x::A,B,y::D,E,fp,hl,⟨f1,f2,e,o1,o2⟩,nd=>by
    subst e
    have hd:=List.nodup_append.1 nd
    obtain⟨gi,q1,q2,q3,q4⟩:=aV.pick (by simpa using hl) o2 hd.2.1
    exact⟨gi,q1,q2,fun c h=>by simp[q3 c h],fun H2 d' hf o=>⟨f1,f2,rfl,o1.frame fun c hc=>hf c (fun h=>hd.2.2 c hc c (q3 c h) rfl),q4 H2 d' hf o⟩⟩
end Go.AM
namespace Go.AM
def xi(n:Nat)(out:ByteArray):ByteArray:=if h:n=0 then out else xi (n / 10) (⟨#[UInt8.ofNat (48+n % 10)]⟩++out)
termination_by n
decreasing_by omega
def hO(k:Int):ByteArray:=if k≤0 then ⟨#[109,48]⟩else ⟨#[109]⟩++xi k.toNat ⟨#[]⟩
def ae.aC(x:ae):Int:=2
def ae.cA(x:ae)(k:Int):ae:=⟨k,k+1⟩
theorem ae.aP(x:ae):0≤x.aC:=by unfold ae.aC;omega
theorem ae.bK(x:ae):x.aC≤2:=by unfold ae.aC;omega
def fc.aC(x:fc):Int:=3
def fc.cA(x:fc)(k:Int):fc:=⟨k,k+1,k+2⟩
theorem fc.aP(x:fc):0≤x.aC:=by unfold fc.aC;omega
theorem fc.bK(x:fc):x.aC≤3:=by unfold fc.aC;omega
def aA.aC(x:aA):Int:=6+ar ae.aC x.args
def aA.cA(x:aA)(k:Int):aA:=⟨k,hO (k+1),dF ae.cA ae.aC x.args (k+2),k+2+ar ae.aC x.args,⟨k+3+ar ae.aC x.args,k+4+ar ae.aC x.args,k+5+ar ae.aC x.args⟩⟩
theorem aA.aP(x:aA):0≤x.aC:=by unfold aA.aC;have:=aT (c:=ae.aC) (ae.aP) x.args;omega
theorem aA.bK(x:aA)(h:x.ok 1048576):x.aC≤2097158:=by
  have b0:=bF (c:=ae.aC) (C:=2) (l:=x.args) (fun y hy=>ae.bK y)
  have l0:x.args.length≤1048576:=h.2
  unfold aA.aC;omega
def aA.xE(x:aA)(k:Int):aA:=⟨x.target,x.name,dF ae.cA ae.aC x.args (k),x.result,x.tag⟩
def aA.cW(x:aA):Int:=0+ar ae.aC x.args
def aH.aC(x:aH):Int:=2
def aH.cA(x:aH)(k:Int):aH:=⟨k,k+1⟩
theorem aH.aP(x:aH):0≤x.aC:=by unfold aH.aC;omega
theorem aH.bK(x:aH):x.aC≤2:=by unfold aH.aC;omega
def an.aC(x:an):Int:=9+ar ae.aC x.slots+ar aA.aC x.queue+ar aH.aC x.askers
def an.cA(x:an)(k:Int):an:=⟨k,k+1,dF ae.cA ae.aC x.slots (k+2),k+2+ar ae.aC x.slots,⟨k+3+ar ae.aC x.slots,k+4+ar ae.aC x.slots⟩,dF aA.cA aA.aC x.queue (k+5+ar ae.aC x.slots),dF aH.cA aH.aC x.askers (k+5+ar ae.aC x.slots+ar aA.aC x.queue),k+5+ar ae.aC x.slots+ar aA.aC x.queue+ar aH.aC x.askers,k+6+ar ae.aC x.slots+ar aA.aC x.queue+ar aH.aC x.askers,k+7+ar ae.aC x.slots+ar aA.aC x.queue+ar aH.aC x.askers,k+8+ar ae.aC x.slots+ar aA.aC x.queue+ar aH.aC x.askers⟩
theorem an.aP(x:an):0≤x.aC:=by unfold an.aC;have:=aT (c:=ae.aC) (ae.aP) x.slots;have:=aT (c:=aA.aC) (aA.aP) x.queue;have:=aT (c:=aH.aC) (aH.aP) x.askers;omega
theorem an.bK(x:an)(h:x.ok 1048576):x.aC≤2199033741321:=by
  have b0:=bF (c:=ae.aC) (C:=2) (l:=x.slots) (fun y hy=>ae.bK y)
  have l0:x.slots.length≤1048576:=h.1
  have b1:=bF (c:=aA.aC) (C:=2097158) (l:=x.queue) (fun y hy=>aA.bK y (h.2.2.1 y hy))
  have l1:x.queue.length≤1048576:=h.2.1
  have b2:=bF (c:=aH.aC) (C:=2) (l:=x.askers) (fun y hy=>aH.bK y)
  have l2:x.askers.length≤1048576:=h.2.2.2
  unfold an.aC;omega
def an.xE(x:an)(k:Int):an:=⟨x.kind,x.script,dF ae.cA ae.aC x.slots (k),x.state,x.value,dF aA.cA aA.aC x.queue (k+ar ae.aC x.slots),dF aH.cA aH.aC x.askers (k+ar ae.aC x.slots+ar aA.aC x.queue),x.peer,x.pos,x.count,x.sent⟩
def an.cW(x:an):Int:=0+ar ae.aC x.slots+ar aA.aC x.queue+ar aH.aC x.askers
def aD.aC(x:aD):Int:=3
def aD.cA(x:aD)(k:Int):aD:=⟨k,k+1,k+2⟩
theorem aD.aP(x:aD):0≤x.aC:=by unfold aD.aC;omega
theorem aD.bK(x:aD):x.aC≤3:=by unfold aD.aC;omega
def ak.aC(x:ak):Int:=2
def ak.cA(x:ak)(k:Int):ak:=⟨k,k+1⟩
theorem ak.aP(x:ak):0≤x.aC:=by unfold ak.aC;omega
theorem ak.bK(x:ak):x.aC≤2:=by unfold ak.aC;omega
def aM.aC(x:aM):Int:=4+ar aD.aC x.exports+ar ak.aC x.questions+ar ak.aC x.answers
def aM.cA(x:aM)(k:Int):aM:=⟨k,decide ((k+1) % 3=0),dF aD.cA aD.aC x.exports (k+2),k+2+ar aD.aC x.exports,dF ak.cA ak.aC x.questions (k+3+ar aD.aC x.exports),k+3+ar aD.aC x.exports+ar ak.aC x.questions,dF ak.cA ak.aC x.answers (k+4+ar aD.aC x.exports+ar ak.aC x.questions)⟩
theorem aM.aP(x:aM):0≤x.aC:=by unfold aM.aC;have:=aT (c:=aD.aC) (aD.aP) x.exports;have:=aT (c:=ak.aC) (ak.aP) x.questions;have:=aT (c:=ak.aC) (ak.aP) x.answers;omega
theorem aM.bK(x:aM)(h:x.ok 1048576):x.aC≤7340036:=by
  have b0:=bF (c:=aD.aC) (C:=3) (l:=x.exports) (fun y hy=>aD.bK y)
  have l0:x.exports.length≤1048576:=h.1
  have b1:=bF (c:=ak.aC) (C:=2) (l:=x.questions) (fun y hy=>ak.bK y)
  have l1:x.questions.length≤1048576:=h.2.1
  have b2:=bF (c:=ak.aC) (C:=2) (l:=x.answers) (fun y hy=>ak.bK y)
  have l2:x.answers.length≤1048576:=h.2.2
  unfold aM.aC;omega
def aM.xE(x:aM)(k:Int):aM:=⟨x.peer,x.up,dF aD.cA aD.aC x.exports (k),x.next,dF ak.cA ak.aC x.questions (k+ar aD.aC x.exports),x.asked,dF ak.cA ak.aC x.answers (k+ar aD.aC x.exports+ar ak.aC x.questions)⟩
def aM.cW(x:aM):Int:=0+ar aD.aC x.exports+ar ak.aC x.questions+ar ak.aC x.answers
def aL.aC(x:aL):Int:=2
def aL.cA(x:aL)(k:Int):aL:=⟨k,k+1⟩
theorem aL.aP(x:aL):0≤x.aC:=by unfold aL.aC;omega
theorem aL.bK(x:aL):x.aC≤2:=by unfold aL.aC;omega
def aR.aC(x:aR):Int:=11+ar aL.aC x.args
def aR.cA(x:aR)(k:Int):aR:=⟨k,k+1,k+2,k+3,hO (k+4),dF aL.cA aL.aC x.args (k+5),⟨k+5+ar aL.aC x.args,k+6+ar aL.aC x.args⟩,k+7+ar aL.aC x.args,⟨k+8+ar aL.aC x.args,k+9+ar aL.aC x.args,k+10+ar aL.aC x.args⟩⟩
theorem aR.aP(x:aR):0≤x.aC:=by unfold aR.aC;have:=aT (c:=aL.aC) (aL.aP) x.args;omega
theorem aR.bK(x:aR)(h:x.ok 1048576):x.aC≤2097163:=by
  have b0:=bF (c:=aL.aC) (C:=2) (l:=x.args) (fun y hy=>aL.bK y)
  have l0:x.args.length≤1048576:=h.2
  unfold aR.aC;omega
def aR.xE(x:aR)(k:Int):aR:=⟨x.kind,x.pos,x.answer,x.question,x.name,dF aL.cA aL.aC x.args (k),x.value,x.count,x.tag⟩
def aR.cW(x:aR):Int:=0+ar aL.aC x.args
def aj.aC(x:aj):Int:=12+ar aL.aC x.message.args
def aj.cA(x:aj)(k:Int):aj:=⟨k,⟨k+1,k+2,k+3,k+4,hO (k+5),dF aL.cA aL.aC x.message.args (k+6),⟨k+6+ar aL.aC x.message.args,k+7+ar aL.aC x.message.args⟩,k+8+ar aL.aC x.message.args,⟨k+9+ar aL.aC x.message.args,k+10+ar aL.aC x.message.args,k+11+ar aL.aC x.message.args⟩⟩⟩
theorem aj.aP(x:aj):0≤x.aC:=by unfold aj.aC;have:=aT (c:=aL.aC) (aL.aP) x.message.args;omega
theorem aj.bK(x:aj)(h:x.ok 1048576):x.aC≤2097164:=by
  have b0:=bF (c:=aL.aC) (C:=2) (l:=x.message.args) (fun y hy=>aL.bK y)
  have l0:x.message.args.length≤1048576:=h.2
  unfold aj.aC;omega
def aj.xE(x:aj)(k:Int):aj:=⟨x.to_,x.message.xE (k)⟩
def aj.cW(x:aj):Int:=0+x.message.cW
def aS.aC(x:aS):Int:=1+ar an.aC x.entities+ar aA.aC x.loop+ar aM.aC x.links+ar aj.aC x.out
def aS.cA(x:aS)(k:Int):aS:=⟨k,dF an.cA an.aC x.entities (k+1),dF aA.cA aA.aC x.loop (k+1+ar an.aC x.entities),dF aM.cA aM.aC x.links (k+1+ar an.aC x.entities+ar aA.aC x.loop),dF aj.cA aj.aC x.out (k+1+ar an.aC x.entities+ar aA.aC x.loop+ar aM.aC x.links)⟩
theorem aS.aP(x:aS):0≤x.aC:=by unfold aS.aC;have:=aT (c:=an.aC) (an.aP) x.entities;have:=aT (c:=aA.aC) (aA.aP) x.loop;have:=aT (c:=aM.aC) (aM.aP) x.links;have:=aT (c:=aj.aC) (aj.aP) x.out;omega
theorem aS.bK(x:aS)(h:x.ok 1048576):x.aC≤2305866098990383105:=by
  have b0:=bF (c:=an.aC) (C:=2199033741321) (l:=x.entities) (fun y hy=>an.bK y (h.2.1 y hy))
  have l0:x.entities.length≤1048576:=h.1
  have b1:=bF (c:=aA.aC) (C:=2097158) (l:=x.loop) (fun y hy=>aA.bK y (h.2.2.2.1 y hy))
  have l1:x.loop.length≤1048576:=h.2.2.1
  have b2:=bF (c:=aM.aC) (C:=7340036) (l:=x.links) (fun y hy=>aM.bK y (h.2.2.2.2.2.1 y hy))
  have l2:x.links.length≤1048576:=h.2.2.2.2.1
  have b3:=bF (c:=aj.aC) (C:=2097164) (l:=x.out) (fun y hy=>aj.bK y (h.2.2.2.2.2.2.2 y hy))
  have l3:x.out.length≤1048576:=h.2.2.2.2.2.2.1
  unfold aS.aC;omega
def aS.xE(x:aS)(k:Int):aS:=⟨x.id,dF an.cA an.aC x.entities (k),dF aA.cA aA.aC x.loop (k+ar an.aC x.entities),dF aM.cA aM.aC x.links (k+ar an.aC x.entities+ar aA.aC x.loop),dF aj.cA aj.aC x.out (k+ar an.aC x.entities+ar aA.aC x.loop+ar aM.aC x.links)⟩
def aS.cW(x:aS):Int:=0+ar an.aC x.entities+ar aA.aC x.loop+ar aM.aC x.links+ar aj.aC x.out
def aN.aC(x:aN):Int:=6
def aN.cA(x:aN)(k:Int):aN:=⟨k,k+1,k+2,k+3,k+4,hO (k+5)⟩
theorem aN.aP(x:aN):0≤x.aC:=by unfold aN.aC;omega
theorem aN.bK(x:aN):x.aC≤6:=by unfold aN.aC;omega
def aJ.aC(x:aJ):Int:=1+ar aN.aC x.code
def aJ.cA(x:aJ)(k:Int):aJ:=⟨hO (k),dF aN.cA aN.aC x.code (k+1)⟩
theorem aJ.aP(x:aJ):0≤x.aC:=by unfold aJ.aC;have:=aT (c:=aN.aC) (aN.aP) x.code;omega
theorem aJ.bK(x:aJ)(h:x.ok 1048576):x.aC≤6291457:=by
  have b0:=bF (c:=aN.aC) (C:=6) (l:=x.code) (fun y hy=>aN.bK y)
  have l0:x.code.length≤1048576:=h.2.1
  unfold aJ.aC;omega
def aJ.xE(x:aJ)(k:Int):aJ:=⟨x.name,dF aN.cA aN.aC x.code (k)⟩
def aJ.cW(x:aJ):Int:=0+ar aN.aC x.code
def aB.aC(x:aB):Int:=1+ar aJ.aC x.methods
def aB.cA(x:aB)(k:Int):aB:=⟨hO (k),dF aJ.cA aJ.aC x.methods (k+1)⟩
theorem aB.aP(x:aB):0≤x.aC:=by unfold aB.aC;have:=aT (c:=aJ.aC) (aJ.aP) x.methods;omega
theorem aB.bK(x:aB)(h:x.ok 1048576):x.aC≤6597070815233:=by
  have b0:=bF (c:=aJ.aC) (C:=6291457) (l:=x.methods) (fun y hy=>aJ.bK y (h.2.2 y hy))
  have l0:x.methods.length≤1048576:=h.2.1
  unfold aB.aC;omega
def aB.xE(x:aB)(k:Int):aB:=⟨x.name,dF aJ.cA aJ.aC x.methods (k)⟩
def aB.cW(x:aB):Int:=0+ar aJ.aC x.methods
theorem aA.gN(x:aA)(h:x.ok 1048576):x.cW≤2097152:=by
  have b0:=bF (c:=ae.aC) (C:=2) (l:=x.args) (fun y hy=>ae.bK y)
  have l0:x.args.length≤1048576:=h.2
  simp only[aA.cW];omega
theorem aA.gT(x:aA):0≤x.cW:=by
  have b0:=aT (c:=ae.aC) ae.aP x.args
  simp only[aA.cW];omega
theorem an.gN(x:an)(h:x.ok 1048576):x.cW≤2199033741312:=by
  have b0:=bF (c:=ae.aC) (C:=2) (l:=x.slots) (fun y hy=>ae.bK y)
  have l0:x.slots.length≤1048576:=h.1
  have b1:=bF (c:=aA.aC) (C:=2097158) (l:=x.queue) (fun y hy=>aA.bK y (h.2.2.1 y hy))
  have l1:x.queue.length≤1048576:=h.2.1
  have b2:=bF (c:=aH.aC) (C:=2) (l:=x.askers) (fun y hy=>aH.bK y)
  have l2:x.askers.length≤1048576:=h.2.2.2
  simp only[an.cW];omega
theorem an.gT(x:an):0≤x.cW:=by
  have b0:=aT (c:=ae.aC) ae.aP x.slots
  have b1:=aT (c:=aA.aC) aA.aP x.queue
  have b2:=aT (c:=aH.aC) aH.aP x.askers
  simp only[an.cW];omega
theorem aM.gN(x:aM)(h:x.ok 1048576):x.cW≤7340032:=by
  have b0:=bF (c:=aD.aC) (C:=3) (l:=x.exports) (fun y hy=>aD.bK y)
  have l0:x.exports.length≤1048576:=h.1
  have b1:=bF (c:=ak.aC) (C:=2) (l:=x.questions) (fun y hy=>ak.bK y)
  have l1:x.questions.length≤1048576:=h.2.1
  have b2:=bF (c:=ak.aC) (C:=2) (l:=x.answers) (fun y hy=>ak.bK y)
  have l2:x.answers.length≤1048576:=h.2.2
  simp only[aM.cW];omega
theorem aM.gT(x:aM):0≤x.cW:=by
  have b0:=aT (c:=aD.aC) aD.aP x.exports
  have b1:=aT (c:=ak.aC) ak.aP x.questions
  have b2:=aT (c:=ak.aC) ak.aP x.answers
  simp only[aM.cW];omega
theorem aR.gN(x:aR)(h:x.ok 1048576):x.cW≤2097152:=by
  have b0:=bF (c:=aL.aC) (C:=2) (l:=x.args) (fun y hy=>aL.bK y)
  have l0:x.args.length≤1048576:=h.2
  simp only[aR.cW];omega
theorem aR.gT(x:aR):0≤x.cW:=by
  have b0:=aT (c:=aL.aC) aL.aP x.args
  simp only[aR.cW];omega
theorem aj.gN(x:aj)(h:x.ok 1048576):x.cW≤2097152:=by
  have b0:=bF (c:=aL.aC) (C:=2) (l:=x.message.args) (fun y hy=>aL.bK y)
  have l0:x.message.args.length≤1048576:=h.2
  simp only[aj.cW,aR.cW];omega
theorem aj.gT(x:aj):0≤x.cW:=by
  have b0:=aT (c:=aL.aC) aL.aP x.message.args
  simp only[aj.cW,aR.cW];omega
theorem aS.gN(x:aS)(h:x.ok 1048576):x.cW≤2305866098990383104:=by
  have b0:=bF (c:=an.aC) (C:=2199033741321) (l:=x.entities) (fun y hy=>an.bK y (h.2.1 y hy))
  have l0:x.entities.length≤1048576:=h.1
  have b1:=bF (c:=aA.aC) (C:=2097158) (l:=x.loop) (fun y hy=>aA.bK y (h.2.2.2.1 y hy))
  have l1:x.loop.length≤1048576:=h.2.2.1
  have b2:=bF (c:=aM.aC) (C:=7340036) (l:=x.links) (fun y hy=>aM.bK y (h.2.2.2.2.2.1 y hy))
  have l2:x.links.length≤1048576:=h.2.2.2.2.1
  have b3:=bF (c:=aj.aC) (C:=2097164) (l:=x.out) (fun y hy=>aj.bK y (h.2.2.2.2.2.2.2 y hy))
  have l3:x.out.length≤1048576:=h.2.2.2.2.2.2.1
  simp only[aS.cW];omega
theorem aS.gT(x:aS):0≤x.cW:=by
  have b0:=aT (c:=an.aC) an.aP x.entities
  have b1:=aT (c:=aA.aC) aA.aP x.loop
  have b2:=aT (c:=aM.aC) aM.aP x.links
  have b3:=aT (c:=aj.aC) aj.aP x.out
  simp only[aS.cW];omega
theorem aJ.gN(x:aJ)(h:x.ok 1048576):x.cW≤6291456:=by
  have b0:=bF (c:=aN.aC) (C:=6) (l:=x.code) (fun y hy=>aN.bK y)
  have l0:x.code.length≤1048576:=h.2.1
  simp only[aJ.cW];omega
theorem aJ.gT(x:aJ):0≤x.cW:=by
  have b0:=aT (c:=aN.aC) aN.aP x.code
  simp only[aJ.cW];omega
theorem aB.gN(x:aB)(h:x.ok 1048576):x.cW≤6597070815232:=by
  have b0:=bF (c:=aJ.aC) (C:=6291457) (l:=x.methods) (fun y hy=>aJ.bK y (h.2.2 y hy))
  have l0:x.methods.length≤1048576:=h.2.1
  simp only[aB.cW];omega
theorem aB.gT(x:aB):0≤x.cW:=by
  have b0:=aT (c:=aJ.aC) aJ.aP x.methods
  simp only[aB.cW];omega
end Go.AM
