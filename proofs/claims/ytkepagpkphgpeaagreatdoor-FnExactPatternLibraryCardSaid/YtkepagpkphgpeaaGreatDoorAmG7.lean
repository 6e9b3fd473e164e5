import Derived.Test.YtkepagpkphgpeaaGreatDoorAmG6
set_option linter.unusedVariables false
set_option linter.unusedSimpArgs false
namespace Go.AM
section
variable {P:Program} {Θ:gQ} {Γ:aZ}
theorem Bw(z:List AV):sub z 0 0=some []:=by simp[sub]
theorem BV(a:AV)(z:List AV)(n:Nat):sub (a::z) 0 (n+1)=(sub z 0 n).map (a :: ·):=by
  simp only[sub,Nat.zero_add,List.length_cons,List.drop_zero]
  by_cases h:n≤z.length
  · rw[if_pos (by omega),if_pos h];rfl
  · rw[if_neg (by omega),if_neg h];rfl
theorem Bi(a:AV)(z:List AV)(o n:Nat):sub (a::z) (o+1) n=sub z o n:=by
  simp only[sub,List.length_cons,List.drop_succ_cons]
  by_cases h:o+n≤z.length
  · rw[if_pos (by omega),if_pos h]
  · rw[if_neg (by omega),if_neg h]
def ju:List AV→Nat→List AV→Option (List AV)
  | z,0,[]=>some z
  | _::z,0,x::vs=>if bC x=true then (ju z 0 vs).map (x :: ·)else none
  | a::z,n+1,vs=>(ju z n vs).map (a :: ·)
  | [],0,_::_=>none
  | [],_+1,_=>none
theorem ma:∀(z:List AV) (o:Nat) (vs z':List AV),ju z o vs=some z'→o+vs.length≤z.length∧vs.all bC=true∧z'=over z o vs
  | z,0,[],z',h=>by simp[ju]at h;subst h;simp[over]
  | a::z,0,x::vs,z',h=>by
    simp only[ju]at h
    split at h
    · rename_i hx
      rw[Option.map_eq_some_iff]at h
      obtain⟨y,h1,rfl⟩:=h
      obtain⟨h2,h3,rfl⟩:=ma z 0 vs y h1
      refine⟨by simp at h2 ⊢;omega,by simp[hx,h3],?_⟩
      simp[over]
    · cases h
  | a::z,n+1,vs,z',h=>by
    simp only[ju,Option.map_eq_some_iff]at h
    obtain⟨y,h1,rfl⟩:=h
    obtain⟨h2,h3,rfl⟩:=ma z n vs y h1
    refine⟨by simp;omega,h3,?_⟩
    simp[over,show n+1+vs.length=(n+vs.length)+1 by omega]
  | [],0,_::_,_,h=>by simp[ju]at h
  | [],_+1,_,_,h=>by simp[ju]at h
theorem A2(z:List AV):ju z 0 []=some z:=by cases z<;>rfl
theorem zM(a x:AV)(z vs:List AV):ju (a::z) 0 (x::vs)=if bC x=true then (ju z 0 vs).map (x :: ·)else none:=rfl
theorem A1(a:AV)(z vs:List AV)(n:Nat):ju (a::z) (n+1) vs=(ju z n vs).map (a :: ·):=rfl
theorem bY{e:List AV}{L zs:List (List AV)}{h:AH}{i off:Nat}{z vs z':List AV}(hi:zs[i]? = some z)(hs:ju z off vs=some z'):(St.mk e (L++zs) h).store (.lp (L.length+i) off) vs=some ⟨e,L++zs.set i z',h⟩:=by
  obtain⟨h1,h2,rfl⟩:=ma z off vs z' hs
  have hl:(L++zs)[L.length+i]? = some z:=by rw[List.getElem?_append_right (by omega)];simpa using hi
  simp only[St.store,hl,Option.bind_some,if_pos h1,h2,if_true]
  rw[List.set_append_right _ _ (by omega)]
  simp
theorem bX{e:List AV}{L zs:List (List AV)}{h:AH}{i off n:Nat}{z:List AV}(hi:zs[i]? = some z):(St.mk e (L++zs) h).cells (.lp (L.length+i) off) n=sub z off n:=by
  have hl:(L++zs)[L.length+i]? = some z:=by rw[List.getElem?_append_right (by omega)];simpa using hi
  simp only[St.cells,hl,Option.bind_some]
theorem JX(e:List AV)(L zs:List (List AV))(z:List AV)(h:AH)(off n:Nat):(St.mk e (L++z::zs) h).cells (.lp L.length off) n=sub z off n:=bX (i:=0) rfl
theorem JP(e:List AV)(L zs:List (List AV))(a z:List AV)(h:AH)(off n:Nat):(St.mk e (L++a::z::zs) h).cells (.lp (L.length+1) off) n=sub z off n:=bX (i:=1) rfl
theorem Km(e:List AV)(L zs:List (List AV))(a b z:List AV)(h:AH)(off n:Nat):(St.mk e (L++a::b::z::zs) h).cells (.lp (L.length+2) off) n=sub z off n:=bX (i:=2) rfl
theorem KC(e:List AV)(L zs:List (List AV))(a b c z:List AV)(h:AH)(off n:Nat):(St.mk e (L++a::b::c::z::zs) h).cells (.lp (L.length+3) off) n=sub z off n:=bX (i:=3) rfl
def gz(f:List AV→St)(alt:Option St):Option (List AV)→Option St|some z=>some (f z)|none=>alt
def ee(s:St)(a:AV)(vs:List AV):Option St:=s.store a vs
theorem Bs(f:List AV→St)(alt:Option St)(z:List AV):gz f alt (some z)=some (f z):=rfl
theorem cL{s:St}{a:AV}{vs:List AV}{o:Option (List AV)}{f:List AV→St}(h:∀z,o=some z→s.store a vs=some (f z)):s.store a vs=gz f (ee s a vs) o:=by
  cases o with
  | none=>rfl
  | some z=>exact h z rfl
theorem Ka(e:List AV)(L zs:List (List AV))(z:List AV)(h:AH)(off:Nat)(vs:List AV):(St.mk e (L++z::zs) h).store (.lp L.length off) vs=gz (fun z'=>⟨e,L++z'::zs,h⟩) (ee ⟨e,L++z::zs,h⟩ (.lp L.length off) vs) (ju z off vs):=
  cL fun _ hs=>bY (i:=0) rfl hs
theorem JV(e:List AV)(L zs:List (List AV))(a z:List AV)(h:AH)(off:Nat)(vs:List AV):(St.mk e (L++a::z::zs) h).store (.lp (L.length+1) off) vs=gz (fun z'=>⟨e,L++a::z'::zs,h⟩) (ee ⟨e,L++a::z::zs,h⟩ (.lp (L.length+1) off) vs) (ju z off vs):=
  cL fun _ hs=>bY (i:=1) rfl hs
theorem Ke(e:List AV)(L zs:List (List AV))(a b z:List AV)(h:AH)(off:Nat)(vs:List AV):(St.mk e (L++a::b::z::zs) h).store (.lp (L.length+2) off) vs=gz (fun z'=>⟨e,L++a::b::z'::zs,h⟩) (ee ⟨e,L++a::b::z::zs,h⟩ (.lp (L.length+2) off) vs) (ju z off vs):=
  cL fun _ hs=>bY (i:=2) rfl hs
theorem J1(e:List AV)(L zs:List (List AV))(a b c z:List AV)(h:AH)(off:Nat)(vs:List AV):(St.mk e (L++a::b::c::z::zs) h).store (.lp (L.length+3) off) vs=gz (fun z'=>⟨e,L++a::b::c::z'::zs,h⟩) (ee ⟨e,L++a::b::c::z::zs,h⟩ (.lp (L.length+3) off) vs) (ju z off vs):=
  cL fun _ hs=>bY (i:=3) rfl hs
theorem Kw(L:List (List AV))(a:List AV):(L++[a]).length=L.length+1:=by simp
theorem Kf(L:List (List AV))(a b:List AV):(L++[a,b]).length=L.length+2:=by simp
theorem KE(L:List (List AV))(a b c:List AV):(L++[a,b,c]).length=L.length+3:=by simp
theorem KH(L:List (List AV))(a z:List AV):(L++[a])++[z]=L++[a,z]:=by simp
theorem Kv(L:List (List AV))(a b z:List AV):(L++[a,b])++[z]=L++[a,b,z]:=by simp
theorem KD(L:List (List AV))(a b c z:List AV):(L++[a,b,c])++[z]=L++[a,b,c,z]:=by simp
theorem ED(k:IntKind)(n:Int):bC (.int k n)=true:=rfl
theorem Hx(b:Bool):bC (.bool b)=true:=rfl
theorem Eb(b:ByteArray):bC (.str b)=true:=rfl
theorem zX(s:SH)(sz:Nat)(xs:List (List AV)):bC (sl s sz xs)=true:=by cases s<;>rfl
theorem zu(b g off len cap sz:Nat)(ex:Bool):bC (.gs b g off len cap sz ex)=true:=rfl
theorem gh{α β:Type}(f:α→β)(x:α):Option.map f (some x)=some (f x):=rfl
theorem Io{α β:Type}(f:α→Option β)(x:α):Option.bind (some x) f=f x:=rfl
theorem Ev(s:St)(n:Nat)(a:AV)(cs:List AV):pF s n a (some cs)=if cs.length=n then .vP (s.store a cs)else .stuck:=rfl
theorem Gf:List.length ([]:List AV)=0:=rfl
theorem Gg(x:AV)(xs:List AV):(x::xs).length=xs.length+1:=rfl
theorem DU(l:List AV):l.drop 0=l:=rfl
theorem Ij(a:AV)(l:List AV)(n:Nat):(a::l).drop (n+1)=l.drop n:=rfl
theorem HM(n:Nat):0+n=n:=Nat.zero_add n
def fG(v:AV):Option Nat:=(rQ v).bind fun i=>if 0≤i then some i.toNat else none
def ig(k:SK)(s:St)(v hi:AV):AR:=match fG hi with|some h=>.cZ s (db k v 0 (some h) none)|none=>.stuck
def cutFrom(k:SK)(s:St)(v lo:AV):AR:=match fG lo with|some l=>.cZ s (db k v l none none)|none=>.stuck
def kg(k:SK)(s:St)(v lo hi:AV):AR:=match fG lo,fG hi with|some l,some h=>.cZ s (db k v l (some h) none)|_,_=>.stuck
theorem pO(gl:Bool)(s:St)(k:SK)(x y:X):step Γ gl s (.slice k x none (some y) none)=ig k s (s.eval Γ x) (s.eval Γ y):=by
  simp only[step,ig,mO,fG]
  cases(rQ (s.eval Γ y)).bind fun i=>if 0≤i then some i.toNat else none<;>rfl
theorem gT(gl:Bool)(s:St)(k:SK)(x y:X):step Γ gl s (.slice k x (some y) none none)=cutFrom k s (s.eval Γ x) (s.eval Γ y):=by
  simp only[step,cutFrom,mO,fG]
  cases(rQ (s.eval Γ y)).bind fun i=>if 0≤i then some i.toNat else none<;>rfl
theorem nX(gl:Bool)(s:St)(k:SK)(x y z:X):step Γ gl s (.slice k x (some y) (some z) none)=kg k s (s.eval Γ x) (s.eval Γ y) (s.eval Γ z):=by
  simp only[step,kg,mO,fG]
  cases(rQ (s.eval Γ y)).bind fun i=>if 0≤i then some i.toNat else none<;>cases(rQ (s.eval Γ z)).bind fun i=>if 0≤i then some i.toNat else none<;>rfl
def SH.cut(s:SH)(b:Bool):SH:=match s with|.nil=>.nil|.v β ex=>.v β (ex && b)
theorem eN{e:List AV}{l:List (List AV)}{H:AH}{b off n g:Nat}{cs:List AV}(h:aS H b=some (g,cs)):(St.mk e l H).cells (.gp b g off) n=sub cs off n:=by
  simp only[St.cells,h,Option.bind_some,if_true]
end
theorem EB:type_of% (And.intro @Bw (And.intro @BV (And.intro @Bi (And.intro @A2 (And.intro @zM (And.intro @A1 (And.intro @JX (And.intro @JP (And.intro @Km (And.intro @KC (And.intro @Ka (And.intro @JV (And.intro @Ke (And.intro @J1 (And.intro @Bs (And.intro @Kw (And.intro @Kf (And.intro @KE (And.intro @KH (And.intro @Kv (And.intro @KD (And.intro @ED (And.intro @Hx (And.intro @Eb (And.intro @zX (And.intro @zu (And.intro @gh (And.intro @pO (And.intro @gT (And.intro @nX (And.intro @DU (And.intro @Ij (And.intro @Io (And.intro @Ev (And.intro @Gf (And.intro @Gg (@HM))))))))))))))))))))))))))))))))))))):=And.intro @Bw (And.intro @BV (And.intro @Bi (And.intro @A2 (And.intro @zM (And.intro @A1 (And.intro @JX (And.intro @JP (And.intro @Km (And.intro @KC (And.intro @Ka (And.intro @JV (And.intro @Ke (And.intro @J1 (And.intro @Bs (And.intro @Kw (And.intro @Kf (And.intro @KE (And.intro @KH (And.intro @Kv (And.intro @KD (And.intro @ED (And.intro @Hx (And.intro @Eb (And.intro @zX (And.intro @zu (And.intro @gh (And.intro @pO (And.intro @gT (And.intro @nX (And.intro @DU (And.intro @Ij (And.intro @Io (And.intro @Ev (And.intro @Gf (And.intro @Gg (@HM))))))))))))))))))))))))))))))))))))
end Go.AM
namespace Go.AM
section
variable {P:Program} {Θ:gQ} {Γ:aZ}
def B6(sz:Nat)(f:FuncId):List O:=[⟨(some 17),none,.mov (.t 0)⟩,
  ⟨(some 18),none,.mov (.t 5)⟩,
  ⟨(some 19),none,.idxs sz (.t 17) (.t 18)⟩,
  ⟨(some 20),none,.load sz true (.t 19)⟩,
  ⟨(some 21),none,.mov (.t 1)⟩,
  ⟨(some 22),none,.mov (.t 5)⟩,
  ⟨(some 23),none,.idxs sz (.t 21) (.t 22)⟩,
  ⟨(some 24),none,.load sz true (.t 23)⟩,
  ⟨(some 25),none,.call (.c (.fn f [] [])) [.t 20,.t 24]⟩,
  ⟨(some 26),none,.un .not (.t 25)⟩]
def Bf:List (List Nat):=[[],[],[0,1],[2],[],[],[4,5],[6],[3,7],[8]]
theorem Hm(sz:Nat)(f:FuncId)(gl:Gl)(Q:AE→St→Prop)(s:St):aw P Θ Γ gl (.regD (B6 sz f) Bf) Q s=bK P Γ gl [⟨(some 17),none,.mov (.t 0)⟩,
  ⟨(some 18),none,.mov (.t 5)⟩,
  ⟨(some 19),none,.idxs sz (.t 17) (.t 18)⟩,
  ⟨(some 20),none,.load sz true (.t 19)⟩,
  ⟨(some 21),none,.mov (.t 1)⟩,
  ⟨(some 22),none,.mov (.t 5)⟩,
  ⟨(some 23),none,.idxs sz (.t 21) (.t 22)⟩,
  ⟨(some 24),none,.load sz true (.t 23)⟩,
  ⟨(some 25),none,.call (.c (.fn f [] [])) [.t 20,.t 24]⟩,
  ⟨(some 26),none,.un .not (.t 25)⟩] (Q .normal) 10 (.q 0 (.q 1 (.q 2 (.q 3 (.q 4 (.q 5 (.q 6 (.q 7 (.q 8 (.q 9 (.done))))))))))) s:=jz rfl (by kernel_rfl) gl Q s
def Hb(sz:Nat)(f:FuncId):C:=.seq (.reg [⟨(some 4),none,.mov (.c (.bool false))⟩]) (.seq (.seq (.reg [⟨(some 6),none,.mov (.t 0)⟩,
  ⟨(some 7),none,.len false (.t 6)⟩,
  ⟨(some 8),none,.mov (.t 1)⟩,
  ⟨(some 9),none,.len false (.t 8)⟩,
  ⟨(some 10),none,.bin .neq (.num) (.t 7) (.t 9)⟩]) (.cond (.t 10) (.seq (.reg [⟨(some 4),none,.mov (.c (.bool false))⟩]) (.ret)) (.skip))) (.seq (.seq (.reg [⟨(some 5),none,.mov (.c (.int .i64 0))⟩]) (.block 0 (.loop (.seq (.seq (.reg [⟨(some 11),none,.mov (.t 5)⟩,
  ⟨(some 12),none,.mov (.t 0)⟩,
  ⟨(some 13),none,.len false (.t 12)⟩,
  ⟨(some 14),none,.bin .lss (.num) (.t 11) (.t 13)⟩]) (.cond (.t 14) (.skip) (.exit 0))) (.seq (.block 1 (.seq (.regD (B6 sz f) Bf) (.cond (.t 26) (.seq (.reg [⟨(some 4),none,.mov (.c (.bool false))⟩]) (.ret)) (.skip)))) (.reg [⟨(some 15),none,.mov (.t 5)⟩,
  ⟨(some 16),none,.bin .add (.num) (.t 15) (.c (.int .i64 1))⟩,
  ⟨(some 5),none,.mov (.t 16)⟩])))))) (.seq (.reg [⟨(some 4),none,.mov (.c (.bool true))⟩]) (.ret))))
end
end Go.AM
namespace Go.AM
inductive CD where
  | i (k:IntKind) (n:Int)|b (x:Bool)|s (x:ByteArray)|sl (sz:Nat) (xs:List (List CD))
  deriving Inhabited
mutual
def CD.av(β:Bool):CD→AV
  | .i k n=>.int k n
  | .b x=>.bool x
  | .s x=>.str x
  | .sl sz xs=>.vs β sz false (CD.xP β xs)
def CD.II(β:Bool):List CD→List AV
  | []=>[]
  | d::r=>d.av β::CD.II β r
def CD.xP(β:Bool):List (List CD)→List (List AV)
  | []=>[]
  | d::r=>CD.II β d::CD.xP β r
end
theorem CD.xC(β:Bool):∀(l:List CD),CD.II β l=l.map (CD.av β)
  | []=>rfl
  | d::r=>by simp[CD.II,CD.xC β r]
theorem CD.pW(β:Bool):∀(l:List (List CD)),CD.xP β l=l.map fun x=>x.map (CD.av β)
  | []=>rfl
  | d::r=>by simp[CD.xP,CD.xC,CD.pW β r]
theorem CD.eX(β:Bool)(k:IntKind)(n:Int):(CD.i k n).av β=.int k n:=by simp[CD.av]
theorem CD.fu(β x:Bool):(CD.b x).av β=.bool x:=by simp[CD.av]
theorem CD.eU(β:Bool)(x:ByteArray):(CD.s x).av β=.str x:=by simp[CD.av]
theorem CD.df(β:Bool)(sz:Nat)(xs:List (List CD)):(CD.sl sz xs).av β=.vs β sz false (xs.map fun x=>x.map (CD.av β)):=by simp[CD.av,CD.pW]
theorem CD.aK(β:Bool)(d:CD):Go.AM.aK (d.av β)=true:=by cases d<;>simp[CD.av,Go.AM.aK]
theorem CD.bC(β:Bool)(d:CD):Go.AM.bC (d.av β)=true:=eL (d.aK β)
inductive atom:AV→Prop
  | i (k:IntKind) (n:Int):atom (.int k n)
  | b (x:Bool):atom (.bool x)
  | s (x:ByteArray):atom (.str x)
  | ns:atom .nils
  | np:atom .nilp
inductive bM (h:AH):AV→CD→List Nat→Prop
  | i (k:IntKind) (n:Int):bM h (.int k n) (.i k n) []
  | b (x:Bool):bM h (.bool x) (.b x) []
  | s (x:ByteArray):bM h (.str x) (.s x) []
  | nil (sz:Nat):bM h .nils (.sl sz []) []
  | gs (b g len cap sz:Nat) (ex:Bool) (as tail:List AV) (xs:List (List CD)) (fps:List (List Nat))
      (h1:aS h b=some (g,as++tail)) (h2:xs.length=len) (h3:∀l∈xs,l.length=sz) (h4:as.length=xs.flatten.length) (ht:∀x∈tail,atom x) (hc:len≤cap∧(cap-len)*sz≤tail.length)
      (hf:fps.length=as.length) (r:∀(i:Nat) (a:AV) (d:CD) (fp:List Nat),as[i]? = some a→xs.flatten[i]? = some d→fps[i]? = some fp→bM h a d fp):
      bM h (.gs b g 0 len cap sz ex) (.sl sz xs) (b::fps.flatten)
def aJ(h:AH):List AV→List CD→List Nat→Prop
  | [],[],fp=>fp=[]
  | a::as,d::ds,fp=>∃f1 f2,fp=f1++f2∧bM h a d f1∧aJ h as ds f2
  | _,_,_=>False
theorem aJ.len{h:AH}:∀{as:List AV} {ds:List CD} {fp:List Nat},aJ h as ds fp→as.length=ds.length
  | [],[],_,_=>rfl
  | a::as,d::ds,fp,hh=>by obtain⟨_,_,_,_,h2⟩:=hh;simp[aJ.len h2]
  | [],_::_,_,hh=>hh.elim
  | _::_,[],_,hh=>hh.elim
theorem aJ.of{h:AH}:∀{as:List AV} {ds:List CD} {fps:List (List Nat)},as.length=ds.length→fps.length=as.length→
    (∀(i:Nat) (a:AV) (d:CD) (fp:List Nat),as[i]? = some a→ds[i]? = some d→fps[i]? = some fp→bM h a d fp)→aJ h as ds fps.flatten
  | [],[],[],_,_,_=>rfl
  | a::as,d::ds,f::fps,h1,h2,r=>⟨f,fps.flatten,rfl,r 0 a d f rfl rfl rfl,aJ.of (by simpa using h1) (by simpa using h2) (fun i a d fp e1 e2 e3=>r (i+1) a d fp (by simpa using e1) (by simpa using e2) (by simpa using e3))⟩
theorem aJ.to{h:AH}:∀{as:List AV} {ds:List CD} {fp:List Nat},aJ h as ds fp→∃fps:List (List Nat),fps.length=as.length∧fp=fps.flatten∧
    ∀(i:Nat) (a:AV) (d:CD) (fp:List Nat),as[i]? = some a→ds[i]? = some d→fps[i]? = some fp→bM h a d fp
  | [],[],fp,hh=>⟨[],rfl,hh,fun i a d fp e1=>by simp at e1⟩
  | a::as,d::ds,fp,hh=>by
    obtain⟨f1,f2,rfl,h1,h2⟩:=hh
    obtain⟨fps,e1,rfl,e3⟩:=aJ.to h2
    refine⟨f1::fps,by simp[e1],rfl,fun i a' d' fp' g1 g2 g3=>?_⟩
    cases i with
    | zero=>simp at g1 g2 g3;subst g1 g2 g3;exact h1
    | succ i=>exact e3 i a' d' fp' (by simpa using g1) (by simpa using g2) (by simpa using g3)
theorem bM.sl_mk{h:AH}{b g cap sz:Nat}{ex:Bool}{as tail:List AV}{xs:List (List CD)}{fp:List Nat}(h1:aS h b=some (g,as++tail))(h3:∀l∈xs,l.length=sz)(ht:∀x∈tail,atom x)(hc:xs.length≤cap∧(cap-xs.length)*sz≤tail.length)
    (r:aJ h as xs.flatten fp):bM h (.gs b g 0 xs.length cap sz ex) (.sl sz xs) (b::fp):=by
  obtain⟨fps,e1,rfl,e3⟩:=r.to
  exact .gs b g _ cap sz ex as tail xs fps h1 rfl h3 r.len ht hc e1 e3
theorem bM.gf{h:AH}{a:AV}{sz:Nat}{xs:List (List CD)}{fp:List Nat}(o:bM h a (.sl sz xs) fp):(a=.nils∧xs=[]∧fp=[])∨
    ∃b g cap ex as tail fp',a=.gs b g 0 xs.length cap sz ex∧fp=b::fp'∧aS h b=some (g,as++tail)∧(∀l∈xs,l.length=sz)∧(∀x∈tail,atom x)∧(xs.length≤cap∧(cap-xs.length)*sz≤tail.length)∧aJ h as xs.flatten fp':=by
  cases o with
  | nil=>exact .inl ⟨rfl,rfl,rfl⟩
  | gs b g len cap sz ex as tail xs fps h1 h2 h3 h4 ht hc hf r=>
    subst h2
    exact .inr ⟨b,g,cap,ex,as,tail,_,rfl,rfl,h1,h3,ht,hc,aJ.of h4 hf r⟩
theorem rz{h:AH}{a:AV}{k:IntKind}{n:Int}{fp:List Nat}:bM h a (.i k n) fp↔a=.int k n∧fp=[]:=
  ⟨fun o=>by cases o;exact⟨rfl,rfl⟩,fun⟨h1,h2⟩=>by subst h1 h2;exact .i _ _⟩
theorem qO{h:AH}{a:AV}{x:Bool}{fp:List Nat}:bM h a (.b x) fp↔a=.bool x∧fp=[]:=
  ⟨fun o=>by cases o;exact⟨rfl,rfl⟩,fun⟨h1,h2⟩=>by subst h1 h2;exact .b _⟩
theorem mb{h:AH}{a:AV}{x:ByteArray}{fp:List Nat}:bM h a (.s x) fp↔a=.str x∧fp=[]:=
  ⟨fun o=>by cases o;exact⟨rfl,rfl⟩,fun⟨h1,h2⟩=>by subst h1 h2;exact .s _⟩
theorem jA{h:AH}{as:List AV}{fp:List Nat}:aJ h as [] fp↔as=[]∧fp=[]:=by
  cases as<;>simp[aJ]
theorem l7{h:AH}{as:List AV}{d:CD}{ds:List CD}{fp:List Nat}:aJ h as (d::ds) fp↔∃a as' f1 f2,as=a::as'∧fp=f1++f2∧bM h a d f1∧aJ h as' ds f2:=by
  cases as with
  | nil=>simp[aJ]
  | cons a as=>
    constructor
    · rintro⟨f1,f2,h1,h2,h3⟩;exact⟨a,as,f1,f2,rfl,h1,h2,h3⟩
    · rintro⟨a',as',f1,f2,h1,h2,h3,h4⟩;injection h1 with e1 e2;subst e1 e2;exact⟨f1,f2,h2,h3,h4⟩
theorem aJ.append{h:AH}:∀{as bs:List AV} {ds es:List CD} {f1 f2:List Nat},aJ h as ds f1→aJ h bs es f2→aJ h (as++bs) (ds++es) (f1++f2)
  | [],bs,[],es,f1,f2,h1,h2=>by cases h1;exact h2
  | a::as,bs,d::ds,es,f1,f2,⟨g1,g2,e,o1,o2⟩,h2=>by subst e;exact⟨g1,g2++f2,by simp,o1,aJ.append o2 h2⟩
theorem aJ.split{h:AH}:∀{as:List AV} {ds es:List CD} {fp:List Nat},aJ h as (ds++es) fp→∃a1 a2 f1 f2,as=a1++a2∧fp=f1++f2∧aJ h a1 ds f1∧aJ h a2 es f2
  | as,[],es,fp,o=>⟨[],as,[],fp,rfl,rfl,rfl,o⟩
  | a::as,d::ds,es,fp,⟨g1,g2,e,o1,o2⟩=>by
    subst e
    obtain⟨a1,a2,f1,f2,e1,e2,o3,o4⟩:=aJ.split o2
    subst e1 e2
    exact⟨a::a1,a2,g1++f1,f2,rfl,by simp,⟨g1,f1,rfl,o1,o3⟩,o4⟩
  | [],d::ds,es,fp,o=>o.elim
theorem dn{h h':AH}{b:Nat}(e:h'[b]? = h[b]?):aS h' b=aS h b:=by simp[aS,e]
theorem bM.frame{h h':AH}{a:AV}{d:CD}{fp:List Nat}(o:bM h a d fp):(∀b∈fp,h'[b]? = h[b]?)→bM h' a d fp:=by
  induction o with
  | i=>exact fun _=>.i _ _
  | b=>exact fun _=>.b _
  | s=>exact fun _=>.s _
  | nil=>exact fun _=>.nil _
  | gs b g len cap sz ex as tail xs fps h1 h2 h3 h4 ht hc hf r ih=>
    intro hh
    refine .gs b g len cap sz ex as tail xs fps (by rw[dn (hh b (by simp))];exact h1) h2 h3 h4 ht hc hf (fun i a d fp e1 e2 e3=>ih i a d fp e1 e2 e3 fun c hc=>hh c ?_)
    exact List.mem_cons_of_mem _ (List.mem_flatten.2 ⟨fp,List.mem_of_getElem? e3,hc⟩)
theorem aJ.frame{h h':AH}:∀{as:List AV} {ds:List CD} {fp:List Nat},aJ h as ds fp→(∀b∈fp,h'[b]? = h[b]?)→aJ h' as ds fp
  | [],[],_,o,_=>o
  | a::as,d::ds,fp,⟨f1,f2,e,o1,o2⟩,hh=>by
    subst e
    exact⟨f1,f2,rfl,o1.frame fun b hb=>hh b (by simp[hb]),aJ.frame o2 fun b hb=>hh b (by simp[hb])⟩
theorem bM.lt{h:AH}{a:AV}{d:CD}{fp:List Nat}(o:bM h a d fp):∀b∈fp,b<h.length:=by
  induction o with
  | gs b g len cap sz ex as tail xs fps h1 h2 h3 h4 ht hc hf r ih=>
    intro c hc
    rcases List.mem_cons.1 hc with rfl|hc
    · exact ar (bb h1)
    · obtain⟨fp,hfp,hc⟩:=List.mem_flatten.1 hc
      obtain⟨i,hi⟩:=List.mem_iff_getElem?.1 hfp
      have hlt:=ar hi
      exact ih i _ _ fp (List.getElem?_eq_getElem (by omega)) (List.getElem?_eq_getElem (by omega)) hi c hc
  | _=>intro b hb;simp at hb
theorem aJ.lt{h:AH}:∀{as:List AV} {ds:List CD} {fp:List Nat},aJ h as ds fp→∀b∈fp,b<h.length
  | [],[],_,o=>by cases o;intro b hb;simp at hb
  | a::as,d::ds,fp,⟨f1,f2,e,o1,o2⟩=>by
    subst e
    intro b hb
    rcases List.mem_append.1 hb with hb|hb
    · exact o1.lt b hb
    · exact aJ.lt o2 b hb
theorem bM.grow{h new:AH}{a:AV}{d:CD}{fp:List Nat}(o:bM h a d fp):bM (h++new) a d fp:=
  o.frame fun b hb=>List.getElem?_append_left (o.lt b hb)
theorem aJ.grow{h new:AH}{as:List AV}{ds:List CD}{fp:List Nat}(o:aJ h as ds fp):aJ (h++new) as ds fp:=
  o.frame fun b hb=>List.getElem?_append_left (o.lt b hb)
theorem bM.aK{h:AH}{a:AV}{d:CD}{fp:List Nat}(o:bM h a d fp):Go.AM.aK a=true:=by cases o<;>rfl
theorem aJ.aK{h:AH}:∀{as:List AV} {ds:List CD} {fp:List Nat},aJ h as ds fp→as.all Go.AM.aK=true
  | [],[],_,_=>rfl
  | a::as,d::ds,fp,⟨f1,f2,e,o1,o2⟩=>by simp[o1.aK,aJ.aK o2]
theorem bM.nb{h:AH}{base:Nat}{a:AV}{d:CD}{fp:List Nat}(o:bM h a d fp)(hb:∀b∈fp,base≤b):NB base a:=by
  cases o with
  | i=>exact .int _ _
  | b=>exact .bool _
  | s=>exact .str _
  | nil=>exact .nils
  | gs=>exact .gs _ _ _ _ _ _ _ (hb _ (by simp))
theorem atom.nb{a:AV}(h:atom a)(base:Nat):NB base a:=by cases h<;>constructor
theorem aJ.nb{h:AH}{base:Nat}:∀{as:List AV} {ds:List CD} {fp:List Nat},aJ h as ds fp→(∀b∈fp,base≤b)→∀x∈as,NB base x
  | [],[],_,_,_=>fun x hx=>by simp at hx
  | a::as,d::ds,fp,⟨f1,f2,e,o1,o2⟩,hb=>by
    subst e
    intro x hx
    rcases List.mem_cons.1 hx with rfl|hx
    · exact o1.nb fun b h=>hb b (by simp[h])
    · exact aJ.nb o2 (fun b h=>hb b (by simp[h])) x hx
theorem bM.xD{h:AH}{base:Nat}{a:AV}{d:CD}{fp:List Nat}(o:bM h a d fp):(∀b∈fp,base≤b)→∀b∈fp,∀g cs,h[b]? = some (some (g,cs))→∀x∈cs,NB base x:=by
  induction o with
  | gs b g len cap sz ex as tail xs fps h1 h2 h3 h4 ht hc hf r ih=>
    intro hb c hc g' cs hcs x hx
    rcases List.mem_cons.1 hc with rfl|hc
    · have:=bb h1
      rw[this]at hcs
      injection hcs with hcs
      injection hcs with hcs
      injection hcs with e1 e2
      subst e1 e2
      rcases List.mem_append.1 hx with hx|hx
      · exact(aJ.of h4 hf r).nb (fun b h=>hb b (by simp[h])) x hx
      · exact(ht x hx).nb base
    · obtain⟨fp,hfp,hc⟩:=List.mem_flatten.1 hc
      obtain⟨i,hi⟩:=List.mem_iff_getElem?.1 hfp
      have hlt:=ar hi
      exact ih i _ _ fp (List.getElem?_eq_getElem (by omega)) (List.getElem?_eq_getElem (by omega)) hi (fun b h=>hb b (List.mem_cons_of_mem _ (List.mem_flatten.2 ⟨fp,hfp,h⟩))) c hc g' cs hcs x hx
  | _=>intro _ b hb;simp at hb
theorem s8{α:Type}{sz:Nat}:∀{xs:List (List α)} {i j:Nat} {l:List α} {x:α},(∀l∈xs,l.length=sz)→xs[i]? = some l→l[j]? = some x→xs.flatten[i*sz+j]? = some x
  | l'::xs,0,j,l,x,_,h1,h2=>by
    simp at h1;subst h1
    rw[List.flatten_cons,Nat.zero_mul,Nat.zero_add,List.getElem?_append_left (ar h2)];exact h2
  | l'::xs,i+1,j,l,x,h,h1,h2=>by
    rw[List.flatten_cons,Nat.succ_mul,List.getElem?_append_right (by rw[h l' (by simp)];omega),h l' (by simp),show i*sz+sz+j-sz=i*sz+j by omega]
    exact s8 (fun l hl=>h l (by simp[hl])) (by simpa using h1) h2
theorem bM.view{h:AH}{a:AV}{d:CD}{fp:List Nat}(o:bM h a d fp):et h a (d.av true)∧∀base,(∀b∈fp,base≤b)→pt base h a (d.av false):=by
  induction o with
  | i=>rw[CD.eX,CD.eX];exact⟨.same _,fun _ _=>.same _ (.int _ _)⟩
  | b=>rw[CD.fu,CD.fu];exact⟨.same _,fun _ _=>.same _ (.bool _)⟩
  | s=>rw[CD.eU,CD.eU];exact⟨.same _,fun _ _=>.same _ (.str _)⟩
  | nil=>rw[CD.df,CD.df];exact⟨.nil _ _,fun _ _=>.nil _ _⟩
  | gs b g len cap sz ex as tail xs fps h1 h2 h3 h4 ht hc hf r ih=>
    subst h2
    rw[CD.df,CD.df]
    have look:∀(β:Bool) (i:Nat) (l:List AV),(xs.map fun x=>x.map (CD.av β))[i]? = some l→∃m,xs[i]? = some m∧l=m.map (CD.av β):=by
      intro β i l hl
      rw[List.getElem?_map,Option.map_eq_some_iff]at hl
      obtain⟨m,hm,rfl⟩:=hl
      exact⟨m,hm,rfl⟩
    have cell:∀(β:Bool) (i j:Nat) (l:List AV) (x:AV),(xs.map fun x=>x.map (CD.av β))[i]? = some l→l[j]? = some x→∃a d fp,as[i*sz+j]? = some a∧xs.flatten[i*sz+j]? = some d∧fps[i*sz+j]? = some fp∧x=d.av β:=by
      intro β i j l x hl hx
      obtain⟨m,hm,rfl⟩:=look β i l hl
      rw[List.getElem?_map,Option.map_eq_some_iff]at hx
      obtain⟨d,hd,rfl⟩:=hx
      have hd':=s8 h3 hm hd
      have hlt:=ar hd'
      exact⟨_,d,_,List.getElem?_eq_getElem (by omega),hd',List.getElem?_eq_getElem (by omega),rfl⟩
    refine⟨.gs b g 0 _ cap sz ex false (as++tail) _ (fun i j=>as.getD (i*sz+j) .any) (bb h1) (by simp) (by simp) ?_ ?_ ?_,fun base hb=>.gs b g 0 _ cap sz ex false (as++tail) _ (fun i j=>as.getD (i*sz+j) .any) (hb b (by simp)) (bb h1) (by simp) (by simp) ?_ ?_ ?_⟩
    · intro i l hl;obtain⟨m,hm,rfl⟩:=look _ i l hl;simpa using h3 m (List.mem_of_getElem? hm)
    · intro i l hl j x hx
      obtain⟨a,d,fp,e1,e2,e3,rfl⟩:=cell _ i j l x hl hx
      rw[Nat.zero_add,List.getElem?_append_left (ar e1),e1];simp[List.getD_eq_getElem?_getD,e1]
    · intro i l hl j x hx
      obtain⟨a,d,fp,e1,e2,e3,rfl⟩:=cell _ i j l x hl hx
      have:=(ih _ a d fp e1 e2 e3).1
      simpa[List.getD_eq_getElem?_getD,e1]using this
    · intro i l hl;obtain⟨m,hm,rfl⟩:=look _ i l hl;simpa using h3 m (List.mem_of_getElem? hm)
    · intro i l hl j x hx
      obtain⟨a,d,fp,e1,e2,e3,rfl⟩:=cell _ i j l x hl hx
      rw[Nat.zero_add,List.getElem?_append_left (ar e1),e1];simp[List.getD_eq_getElem?_getD,e1]
    · intro i l hl j x hx
      obtain⟨a,d,fp,e1,e2,e3,rfl⟩:=cell _ i j l x hl hx
      have:=(ih _ a d fp e1 e2 e3).2 base fun b h=>hb b (List.mem_cons_of_mem _ (List.mem_flatten.2 ⟨fp,List.mem_of_getElem? e3,h⟩))
      simpa[List.getD_eq_getElem?_getD,e1]using this
theorem aJ.snap{h:AH}:∀{as:List AV} {ds:List CD} {fp:List Nat},aJ h as ds fp→gC h as (ds.map (CD.av true))
  | [],[],_,_=>trivial
  | a::as,d::ds,fp,⟨f1,f2,e,o1,o2⟩=>⟨o1.view.1,aJ.snap o2⟩
theorem aJ.zU{h:AH}{base:Nat}:∀{as:List AV} {ds:List CD} {fp:List Nat},aJ h as ds fp→(∀b∈fp,base≤b)→∀(i:Nat) (y:AV),(ds.map (CD.av false))[i]? = some y→∃x,as[i]? = some x∧pt base h x y
  | [],[],_,_,_,i,y,hy=>by simp at hy
  | a::as,d::ds,fp,⟨f1,f2,e,o1,o2⟩,hb,i,y,hy=>by
    subst e
    cases i with
    | zero=>simp at hy;subst hy;exact⟨a,rfl,o1.view.2 base fun b h=>hb b (by simp[h])⟩
    | succ i=>exact aJ.zU o2 (fun b h=>hb b (by simp[h])) i y (by simpa using hy)
inductive RD where|c (d:CD)|a (cs:List CD)
def RD.av(β:Bool):RD→AV|.c d=>d.av β|.a cs=>.agg (cs.map (CD.av β))
def mJ(h:AH)(v:AV):RD→List Nat→Prop
  | .c d,fp=>bM h v d fp
  | .a cs,fp=>∃as,v=.agg as∧aJ h as cs fp
def c7(h:AH):List AV→List RD→List Nat→Prop
  | [],[],fp=>fp=[]
  | v::vs,r::rs,fp=>∃f1 f2,fp=f1++f2∧mJ h v r f1∧c7 h vs rs f2
  | _,_,_=>False
def gu:List AV→AV|[v]=>v|vs=>.tup vs
theorem mJ.frame{h h':AH}{v:AV}{r:RD}{fp:List Nat}(o:mJ h v r fp)(hh:∀b∈fp,h'[b]? = h[b]?):mJ h' v r fp:=by
  cases r with
  | c d=>exact bM.frame o hh
  | a cs=>obtain⟨as,e,o⟩:=o;exact⟨as,e,o.frame hh⟩
theorem c7.frame{h h':AH}:∀{vs:List AV} {rs:List RD} {fp:List Nat},c7 h vs rs fp→(∀b∈fp,h'[b]? = h[b]?)→c7 h' vs rs fp
  | [],[],_,o,_=>o
  | a::as,d::ds,fp,⟨f1,f2,e,o1,o2⟩,hh=>by
    subst e
    exact⟨f1,f2,rfl,o1.frame fun b hb=>hh b (by simp[hb]),c7.frame o2 fun b hb=>hh b (by simp[hb])⟩
theorem mJ.lt{h:AH}{v:AV}{r:RD}{fp:List Nat}(o:mJ h v r fp):∀b∈fp,b<h.length:=by
  cases r with
  | c d=>exact bM.lt o
  | a cs=>obtain⟨as,e,o⟩:=o;exact o.lt
theorem c7.lt{h:AH}:∀{vs:List AV} {rs:List RD} {fp:List Nat},c7 h vs rs fp→∀b∈fp,b<h.length
  | [],[],_,o=>by cases o;intro b hb;simp at hb
  | a::as,d::ds,fp,⟨f1,f2,e,o1,o2⟩=>by
    subst e
    intro b hb
    rcases List.mem_append.1 hb with hb|hb
    · exact o1.lt b hb
    · exact c7.lt o2 b hb
theorem mJ.nb{h:AH}{base:Nat}{v:AV}{r:RD}{fp:List Nat}(o:mJ h v r fp)(hb:∀b∈fp,base≤b):NB base v:=by
  cases r with
  | c d=>exact bM.nb o hb
  | a cs=>obtain⟨as,rfl,o⟩:=o;exact .agg _ (o.nb hb)
theorem c7.nb{h:AH}{base:Nat}:∀{vs:List AV} {rs:List RD} {fp:List Nat},c7 h vs rs fp→(∀b∈fp,base≤b)→∀x∈vs,NB base x
  | [],[],_,_,_=>fun x hx=>by simp at hx
  | a::as,d::ds,fp,⟨f1,f2,e,o1,o2⟩,hb=>by
    subst e
    intro x hx
    rcases List.mem_cons.1 hx with rfl|hx
    · exact o1.nb fun b h=>hb b (by simp[h])
    · exact c7.nb o2 (fun b h=>hb b (by simp[h])) x hx
theorem uR{base:Nat}{vs:List AV}(h:∀x∈vs,NB base x):NB base (gu vs):=by
  unfold gu
  split
  · exact h _ (by simp)
  · exact .tup _ h
theorem aJ.xD{h:AH}{base:Nat}:∀{as:List AV} {ds:List CD} {fp:List Nat},aJ h as ds fp→(∀b∈fp,base≤b)→∀b∈fp,∀g cs,h[b]? = some (some (g,cs))→∀x∈cs,NB base x
  | [],[],_,o,_=>by cases o;intro b hb;simp at hb
  | a::as,d::ds,fp,⟨f1,f2,e,o1,o2⟩,hh=>by
    subst e
    intro b hb
    rcases List.mem_append.1 hb with hb|hb
    · exact o1.xD (fun b h=>hh b (by simp[h])) b hb
    · exact aJ.xD o2 (fun b h=>hh b (by simp[h])) b hb
theorem c7.xD{h:AH}{base:Nat}:∀{vs:List AV} {rs:List RD} {fp:List Nat},c7 h vs rs fp→(∀b∈fp,base≤b)→∀b∈fp,∀g cs,h[b]? = some (some (g,cs))→∀x∈cs,NB base x
  | [],[],_,o,_=>by cases o;intro b hb;simp at hb
  | a::as,d::ds,fp,⟨f1,f2,e,o1,o2⟩,hh=>by
    subst e
    intro b hb
    rcases List.mem_append.1 hb with hb|hb
    · cases d with
      | c d=>exact bM.xD o1 (fun b h=>hh b (by simp[h])) b hb
      | a cs=>obtain⟨as',_,o1⟩:=o1;exact aJ.xD o1 (fun b h=>hh b (by simp[h])) b hb
    · exact c7.xD o2 (fun b h=>hh b (by simp[h])) b hb
theorem mJ.zU{h:AH}{base:Nat}{v:AV}{r:RD}{fp:List Nat}(o:mJ h v r fp)(hb:∀b∈fp,base≤b):pt base h v (r.av false):=by
  cases r with
  | c d=>exact(bM.view o).2 base hb
  | a cs=>
    obtain⟨as,rfl,o⟩:=o
    refine .agg as _ (by simp[o.len]) (fun i=>as.getD i .any) (fun i y hy=>?_) (fun i y hy=>?_)
    · obtain⟨x,hx,_⟩:=o.zU hb i y hy;simp[List.getD_eq_getElem?_getD,hx]
    · obtain⟨x,hx,hf⟩:=o.zU hb i y hy;simpa[List.getD_eq_getElem?_getD,hx]using hf
theorem c7.zU{h:AH}{base:Nat}:∀{vs:List AV} {rs:List RD} {fp:List Nat},c7 h vs rs fp→(∀b∈fp,base≤b)→vs.length=rs.length∧∀(i:Nat) (y:AV),(rs.map (RD.av false))[i]? = some y→∃x,vs[i]? = some x∧pt base h x y
  | [],[],_,_,_=>⟨rfl,fun i y hy=>by simp at hy⟩
  | a::as,d::ds,fp,⟨f1,f2,e,o1,o2⟩,hb=>by
    subst e
    obtain⟨h1,h2⟩:=c7.zU o2 (fun b h=>hb b (by simp[h]))
    refine⟨by simp[h1],fun i y hy=>?_⟩
    cases i with
    | zero=>simp at hy;subst hy;exact⟨a,rfl,o1.zU fun b h=>hb b (by simp[h])⟩
    | succ i=>exact h2 i y (by simpa using hy)
theorem c7.IW{h:AH}{base:Nat}{vs:List AV}{rs:List RD}{fp:List Nat}(o:c7 h vs rs fp)(hb:∀b∈fp,base≤b):pt base h (gu vs) (gu (rs.map (RD.av false))):=by
  obtain⟨h1,h2⟩:=o.zU hb
  match vs,rs,h1 with
  | [v],[r],_=>obtain⟨x,e,hf⟩:=h2 0 _ rfl;simp at e;subst e;exact hf
  | [],[],_=>exact .tup _ _ rfl (fun _=>.any) (fun i y hy=>by simp at hy) (fun i y hy=>by simp at hy)
  | v::v'::vs,r::r'::rs,h1=>
    refine .tup _ _ (by simpa using h1) (fun i=>(v::v'::vs).getD i .any) (fun i y hy=>?_) (fun i y hy=>?_)
    · obtain⟨x,hx,_⟩:=h2 i y hy;simp only[List.getD_eq_getElem?_getD,hx];rfl
    · obtain⟨x,hx,hf⟩:=h2 i y hy;simp only[List.getD_eq_getElem?_getD,hx];exact hf
def ca(h:AH)(rs:List RD)(v:AV)(h':AH):Prop:=
  ∃vs new fp,v=gu vs∧h'=h++new∧c7 h' vs rs fp∧fp.Nodup∧(∀b∈fp,h.length≤b)∧∀b,h.length≤b→b<h'.length→b∉fp→h'[b]? = some none
theorem ca.xD{h:AH}{rs:List RD}{vs:List AV}{new:AH}{fp:List Nat}(o:c7 (h++new) vs rs fp)(hb:∀b∈fp,h.length≤b)(hd:∀b,h.length≤b→b<(h++new).length→b∉fp→(h++new)[b]? = some none):
    IF h.length new:=by
  intro b g cs hcs x hx
  have hlt:=ar hcs
  have e:(h++new)[h.length+b]? = some (some (g,cs)):=by rw[List.getElem?_append_right (by omega)];simpa using hcs
  by_cases hm:h.length+b∈fp
  · exact o.xD hb _ hm g cs e x hx
  · have:=hd (h.length+b) (by omega) (by simp;omega) hm
    rw[e]at this
    cases this
section
variable {P:Program} {Θ:gQ} {Γ:aZ}
theorem T.prune{f:FuncId}{args:List AV}{h:AH}{Q K:AV→AH→Prop}(t:T P Γ f args h Q)(hq:∀v h',Q v h'→∃h'',h''.length=h'.length∧(∀(b:Nat) (x:Nat×List AV),h''[b]? = some (some x)→h'[b]? = some (some x))∧K v h''):T P Γ f args h K:=by
  refine⟨t.1,fun ρ w cargs m gk ra=>(t.2 ρ w cargs m gk ra).mono ?_⟩
  rintro e w' ⟨v,cv,ρ',h',rfl,r1,r2,ev,q⟩
  obtain⟨h'',hl,hs,hk⟩:=hq _ _ q
  refine⟨v,cv,ρ',h'',rfl,r1,⟨fun b g cs hb=>r2.hp b g cs (hs b _ hb),r2.lp,r2.len,r2.nod,fun b g cs b' g' cs' c o n o' n' e1 e2=>r2.hh b g cs b' g' cs' c o n o' n' (hs _ _ e1) (hs _ _ e2),fun b g cs c o n i e1=>r2.hl b g cs c o n i (hs _ _ e1),r2.im,r2.iml,
    fun β c arr b g cs o n e1 e2=>r2.imh β c arr b g cs o n e1 (hs _ _ e2),fun b g c o n e1=>?_⟩,⟨ev.le,ev.ext,ev.sz,ev.fr,fun b g cs c o n e1=>ev.own b g cs c o n (hs _ _ e1),ev.ownl,ev.imo,by rw[hl];exact ev.len,ev.os,ev.out⟩,hk⟩
  obtain⟨d1,d2,d3⟩:=r2.dom b g c o n e1
  exact⟨d1,by rw[hl];exact d2,fun g' cs e2=>d3 g' cs (hs _ _ e2)⟩
theorem T.fresh{f:FuncId}{args:List AV}{h:AH}{Q:AV→AH→Prop}{rs:List RD}(t:T P Γ f args h Q)
    (hq:∀v h',Q v h'→∃vs new fp,v=gu vs∧h'=h++new∧c7 h' vs rs fp∧fp.Nodup∧∀b∈fp,h.length≤b):T P Γ f args h (ca h rs):=by
  refine t.prune fun v h' q=>?_
  obtain⟨vs,new,fp,rfl,rfl,o,nd,hb⟩:=hq v h' q
  let new':AH:=new.mapIdx fun i x=>if h.length+i∈fp then x else none
  have aS:∀b,(h++new')[b]? = if h.length≤b∧b<(h++new).length∧b∉fp then some none else (h++new)[b]?:=by
    intro b
    rcases Nat.lt_or_ge b h.length with hlt|hge
    · rw[List.getElem?_append_left hlt,List.getElem?_append_left hlt,if_neg (by omega)]
    · rw[List.getElem?_append_right hge,List.getElem?_append_right hge]
      simp only[new',List.getElem?_mapIdx]
      rw[show h.length+(b-h.length)=b by omega]
      rcases Nat.lt_or_ge (b-h.length) new.length with hl|hl
      · rw[List.getElem?_eq_getElem hl]
        by_cases hm:b∈fp
        · simp[hm]
        · simp only[hm,if_false,Option.map_some,not_false_eq_true,and_true]
          rw[if_pos ⟨hge,by simp;omega⟩]
      · rw[List.getElem?_eq_none hl]
        simp only[Option.map_none]
        rw[if_neg (by simp;omega)]
  refine⟨h++new',by simp[new'],fun b x e=>?_,vs,new',fp,rfl,rfl,o.frame fun b hm=>?_,nd,hb,fun b h1 h2 h3=>?_⟩
  · rw[aS]at e
    split at e
    · cases e
    · exact e
  · rw[aS,if_neg (by simp[hm])]
  · rw[aS,if_pos ⟨h1,by simp[new']at h2;simpa using h2,h3⟩]
theorem T.frozen{f:FuncId}{args:List AV}{h:AH}{rs:List RD}(t:T P Γ f args h (ca h rs)):T P Γ f args h fun v h'=>v=gu (rs.map (RD.av false))∧h'=h:=by
  refine t.freeze ?_
  rintro v h' ⟨vs,new,fp,rfl,rfl,o,nd,hb,hd⟩
  exact⟨h,new,_,rfl,rfl,fun b g cs hb=>.inl hb,o.IW hb,rfl,rfl⟩
theorem an.own{f:FuncId}{args args':List AV}{s:St}{rs:List RD}{K:AV→St→Prop}(ho:args.all bF=true)(hs:gC s.heap args args')
    (t:∀h,T P Γ f args' h (ca h rs)) (hk:∀v h',ca s.heap rs v h'→K v { s with heap:=h' }):an P Γ f args s K:=by
  refine an.snap ho hs (t _) ?_
  rintro v h' ⟨vs,new,fp,rfl,rfl,o,nd,hb,hd⟩
  have hlr:(List.replicate s.heap.length (none:Option (Nat×List AV))).length=s.heap.length:=by simp
  have same:∀b,s.heap.length≤b→(s.heap++new)[b]? = (List.replicate s.heap.length none++new)[b]?:=fun b hb=>by
    rw[List.getElem?_append_right hb,List.getElem?_append_right (by rw[hlr];exact hb),hlr]
  rw[hlr]at hb hd
  have o':c7 (s.heap++new) vs rs fp:=o.frame fun b hm=>same b (hb b hm)
  have hd':∀b,s.heap.length≤b→b<(s.heap++new).length→b∉fp→(s.heap++new)[b]? = some none:=fun b h1 h2 h3=>by
    rw[same b h1];exact hd b h1 (by simp at h2 ⊢;omega) h3
  exact⟨new,rfl,uR (o.nb hb),ca.xD o' hb hd',hk _ _ ⟨vs,new,fp,rfl,rfl,o',nd,hb,hd'⟩⟩
theorem an.jB{f:FuncId}{args args':List AV}{s:St}{V:AV}{K:AV→St→Prop}(ho:args.all bF=true)(hs:gC s.heap args args')
    (t:∀h,T P Γ f args' h fun v h'=>v=V∧h'=h) (hv:NB s.heap.length V) (hk:K V s):an P Γ f args s K:=by
  refine an.snap ho hs (t _) ?_
  rintro v h' ⟨rfl,rfl⟩
  exact⟨[],by simp,hv,.nil _,by simpa using hk⟩
end
end Go.AM
namespace Go.AM
structure aP where
  kind:Int
  n:Int
  deriving DecidableEq,Inhabited
def aP.cd(x:aP):List CD:=[.i .i64 x.kind,.i .i64 x.n]
def aP.c(β:Bool)(x:aP):List AV:=[.int .i64 x.kind,.int .i64 x.n]
theorem aP.cS(β:Bool)(x:aP):x.cd.map (CD.av β)=x.c β:=by simp[aP.cd,aP.c,CD.eX,CD.fu,CD.eU,CD.df,Function.comp_def]
structure gw where
  vat:Int
  entity:Int
  seq:Int
  deriving DecidableEq,Inhabited
def gw.cd(x:gw):List CD:=[.i .i64 x.vat,.i .i64 x.entity,.i .i64 x.seq]
def gw.c(β:Bool)(x:gw):List AV:=[.int .i64 x.vat,.int .i64 x.entity,.int .i64 x.seq]
theorem gw.cS(β:Bool)(x:gw):x.cd.map (CD.av β)=x.c β:=by simp[gw.cd,gw.c,CD.eX,CD.fu,CD.eU,CD.df,Function.comp_def]
structure bu where
  target:Int
  name:ByteArray
  args:List aP
  result:Int
  tag:gw
  deriving DecidableEq,Inhabited
def bu.cd(x:bu):List CD:=[.i .i64 x.target,.s x.name,.sl 2 (x.args.map aP.cd),.i .i64 x.result,.i .i64 x.tag.vat,.i .i64 x.tag.entity,.i .i64 x.tag.seq]
def bu.c(β:Bool)(x:bu):List AV:=[.int .i64 x.target,.str x.name,.vs β 2 false (x.args.map (aP.c β)),.int .i64 x.result,.int .i64 x.tag.vat,.int .i64 x.tag.entity,.int .i64 x.tag.seq]
theorem bu.cS(β:Bool)(x:bu):x.cd.map (CD.av β)=x.c β:=by simp[bu.cd,bu.c,CD.eX,CD.fu,CD.eU,CD.df,Function.comp_def,aP.cS]
def bu.ok(N:Nat)(x:bu):Prop:=(x.name.size≤N)∧(x.args.length≤N)
theorem bu.ok.mono{N M:Nat}(hN:N≤M){x:bu}(h:x.ok N):x.ok M:=⟨Nat.le_trans h.1 hN,Nat.le_trans h.2 hN⟩
structure bG where
  peer:Int
  question:Int
  deriving DecidableEq,Inhabited
def bG.cd(x:bG):List CD:=[.i .i64 x.peer,.i .i64 x.question]
def bG.c(β:Bool)(x:bG):List AV:=[.int .i64 x.peer,.int .i64 x.question]
theorem bG.cS(β:Bool)(x:bG):x.cd.map (CD.av β)=x.c β:=by simp[bG.cd,bG.c,CD.eX,CD.fu,CD.eU,CD.df,Function.comp_def]
structure ba where
  kind:Int
  script:Int
  slots:List aP
  state:Int
  value:aP
  queue:List bu
  askers:List bG
  peer:Int
  pos:Int
  count:Int
  sent:Int
  deriving DecidableEq,Inhabited
def ba.cd(x:ba):List CD:=[.i .i64 x.kind,.i .i64 x.script,.sl 2 (x.slots.map aP.cd),.i .i64 x.state,.i .i64 x.value.kind,.i .i64 x.value.n,.sl 7 (x.queue.map bu.cd),.sl 2 (x.askers.map bG.cd),.i .i64 x.peer,.i .i64 x.pos,.i .i64 x.count,.i .i64 x.sent]
def ba.c(β:Bool)(x:ba):List AV:=[.int .i64 x.kind,.int .i64 x.script,.vs β 2 false (x.slots.map (aP.c β)),.int .i64 x.state,.int .i64 x.value.kind,.int .i64 x.value.n,.vs β 7 false (x.queue.map (bu.c β)),.vs β 2 false (x.askers.map (bG.c β)),.int .i64 x.peer,.int .i64 x.pos,.int .i64 x.count,.int .i64 x.sent]
theorem ba.cS(β:Bool)(x:ba):x.cd.map (CD.av β)=x.c β:=by simp[ba.cd,ba.c,CD.eX,CD.fu,CD.eU,CD.df,Function.comp_def,bG.cS,bu.cS,aP.cS]
def ba.ok(N:Nat)(x:ba):Prop:=(x.slots.length≤N)∧(x.queue.length≤N)∧(∀y∈x.queue,y.ok N)∧(x.askers.length≤N)
theorem ba.ok.mono{N M:Nat}(hN:N≤M){x:ba}(h:x.ok N):x.ok M:=⟨Nat.le_trans h.1 hN,Nat.le_trans h.2.1 hN,fun y hy=>(h.2.2.1 y hy).mono hN,Nat.le_trans h.2.2.2 hN⟩
structure bj where
  pos:Int
  entity:Int
  count:Int
  deriving DecidableEq,Inhabited
def bj.cd(x:bj):List CD:=[.i .i64 x.pos,.i .i64 x.entity,.i .i64 x.count]
def bj.c(β:Bool)(x:bj):List AV:=[.int .i64 x.pos,.int .i64 x.entity,.int .i64 x.count]
theorem bj.cS(β:Bool)(x:bj):x.cd.map (CD.av β)=x.c β:=by simp[bj.cd,bj.c,CD.eX,CD.fu,CD.eU,CD.df,Function.comp_def]
structure aI where
  id:Int
  promise:Int
  deriving DecidableEq,Inhabited
def aI.cd(x:aI):List CD:=[.i .i64 x.id,.i .i64 x.promise]
def aI.c(β:Bool)(x:aI):List AV:=[.int .i64 x.id,.int .i64 x.promise]
theorem aI.cS(β:Bool)(x:aI):x.cd.map (CD.av β)=x.c β:=by simp[aI.cd,aI.c,CD.eX,CD.fu,CD.eU,CD.df,Function.comp_def]
structure cq where
  peer:Int
  up:Bool
  exports:List bj
  next:Int
  questions:List aI
  asked:Int
  answers:List aI
  deriving DecidableEq,Inhabited
def cq.cd(x:cq):List CD:=[.i .i64 x.peer,.b x.up,.sl 3 (x.exports.map bj.cd),.i .i64 x.next,.sl 2 (x.questions.map aI.cd),.i .i64 x.asked,.sl 2 (x.answers.map aI.cd)]
def cq.c(β:Bool)(x:cq):List AV:=[.int .i64 x.peer,.bool x.up,.vs β 3 false (x.exports.map (bj.c β)),.int .i64 x.next,.vs β 2 false (x.questions.map (aI.c β)),.int .i64 x.asked,.vs β 2 false (x.answers.map (aI.c β))]
theorem cq.cS(β:Bool)(x:cq):x.cd.map (CD.av β)=x.c β:=by simp[cq.cd,cq.c,CD.eX,CD.fu,CD.eU,CD.df,Function.comp_def,bj.cS,aI.cS]
def cq.ok(N:Nat)(x:cq):Prop:=(x.exports.length≤N)∧(x.questions.length≤N)∧(x.answers.length≤N)
theorem cq.ok.mono{N M:Nat}(hN:N≤M){x:cq}(h:x.ok N):x.ok M:=⟨Nat.le_trans h.1 hN,Nat.le_trans h.2.1 hN,Nat.le_trans h.2.2 hN⟩
structure bp where
  kind:Int
  n:Int
  deriving DecidableEq,Inhabited
def bp.cd(x:bp):List CD:=[.i .i64 x.kind,.i .i64 x.n]
def bp.c(β:Bool)(x:bp):List AV:=[.int .i64 x.kind,.int .i64 x.n]
theorem bp.cS(β:Bool)(x:bp):x.cd.map (CD.av β)=x.c β:=by simp[bp.cd,bp.c,CD.eX,CD.fu,CD.eU,CD.df,Function.comp_def]
structure bw where
  kind:Int
  pos:Int
  answer:Int
  question:Int
  name:ByteArray
  args:List bp
  value:bp
  count:Int
  tag:gw
  deriving DecidableEq,Inhabited
def bw.cd(x:bw):List CD:=[.i .i64 x.kind,.i .i64 x.pos,.i .i64 x.answer,.i .i64 x.question,.s x.name,.sl 2 (x.args.map bp.cd),.i .i64 x.value.kind,.i .i64 x.value.n,.i .i64 x.count,.i .i64 x.tag.vat,.i .i64 x.tag.entity,.i .i64 x.tag.seq]
def bw.c(β:Bool)(x:bw):List AV:=[.int .i64 x.kind,.int .i64 x.pos,.int .i64 x.answer,.int .i64 x.question,.str x.name,.vs β 2 false (x.args.map (bp.c β)),.int .i64 x.value.kind,.int .i64 x.value.n,.int .i64 x.count,.int .i64 x.tag.vat,.int .i64 x.tag.entity,.int .i64 x.tag.seq]
theorem bw.cS(β:Bool)(x:bw):x.cd.map (CD.av β)=x.c β:=by simp[bw.cd,bw.c,CD.eX,CD.fu,CD.eU,CD.df,Function.comp_def,bp.cS]
def bw.ok(N:Nat)(x:bw):Prop:=(x.name.size≤N)∧(x.args.length≤N)
theorem bw.ok.mono{N M:Nat}(hN:N≤M){x:bw}(h:x.ok N):x.ok M:=⟨Nat.le_trans h.1 hN,Nat.le_trans h.2 hN⟩
structure aO where
  to_:Int
  message:bw
  deriving DecidableEq,Inhabited
def aO.cd(x:aO):List CD:=[.i .i64 x.to_,.i .i64 x.message.kind,.i .i64 x.message.pos,.i .i64 x.message.answer,.i .i64 x.message.question,.s x.message.name,.sl 2 (x.message.args.map bp.cd),.i .i64 x.message.value.kind,.i .i64 x.message.value.n,.i .i64 x.message.count,.i .i64 x.message.tag.vat,.i .i64 x.message.tag.entity,.i .i64 x.message.tag.seq]
def aO.c(β:Bool)(x:aO):List AV:=[.int .i64 x.to_,.int .i64 x.message.kind,.int .i64 x.message.pos,.int .i64 x.message.answer,.int .i64 x.message.question,.str x.message.name,.vs β 2 false (x.message.args.map (bp.c β)),.int .i64 x.message.value.kind,.int .i64 x.message.value.n,.int .i64 x.message.count,.int .i64 x.message.tag.vat,.int .i64 x.message.tag.entity,.int .i64 x.message.tag.seq]
theorem aO.cS(β:Bool)(x:aO):x.cd.map (CD.av β)=x.c β:=by simp[aO.cd,aO.c,CD.eX,CD.fu,CD.eU,CD.df,Function.comp_def,bp.cS]
def aO.ok(N:Nat)(x:aO):Prop:=(x.message.ok N)
theorem aO.ok.mono{N M:Nat}(hN:N≤M){x:aO}(h:x.ok N):x.ok M:=bw.ok.mono hN h
structure eV where
  id:Int
  entities:List ba
  loop:List bu
  links:List cq
  out:List aO
  deriving DecidableEq,Inhabited
def eV.cd(x:eV):List CD:=[.i .i64 x.id,.sl 12 (x.entities.map ba.cd),.sl 7 (x.loop.map bu.cd),.sl 7 (x.links.map cq.cd),.sl 13 (x.out.map aO.cd)]
def eV.c(β:Bool)(x:eV):List AV:=[.int .i64 x.id,.vs β 12 false (x.entities.map (ba.c β)),.vs β 7 false (x.loop.map (bu.c β)),.vs β 7 false (x.links.map (cq.c β)),.vs β 13 false (x.out.map (aO.c β))]
theorem eV.cS(β:Bool)(x:eV):x.cd.map (CD.av β)=x.c β:=by simp[eV.cd,eV.c,CD.eX,CD.fu,CD.eU,CD.df,Function.comp_def,ba.cS,cq.cS,aO.cS,bu.cS]
def eV.ok(N:Nat)(x:eV):Prop:=(x.entities.length≤N)∧(∀y∈x.entities,y.ok N)∧(x.loop.length≤N)∧(∀y∈x.loop,y.ok N)∧(x.links.length≤N)∧(∀y∈x.links,y.ok N)∧(x.out.length≤N)∧(∀y∈x.out,y.ok N)
theorem eV.ok.mono{N M:Nat}(hN:N≤M){x:eV}(h:x.ok N):x.ok M:=⟨Nat.le_trans h.1 hN,fun y hy=>(h.2.1 y hy).mono hN,Nat.le_trans h.2.2.1 hN,fun y hy=>(h.2.2.2.1 y hy).mono hN,Nat.le_trans h.2.2.2.2.1 hN,fun y hy=>(h.2.2.2.2.2.1 y hy).mono hN,Nat.le_trans h.2.2.2.2.2.2.1 hN,fun y hy=>(h.2.2.2.2.2.2.2 y hy).mono hN⟩
structure aj where
  op:Int
  a:Int
  b:Int
  c_:Int
  d:Int
  name:ByteArray
  deriving DecidableEq,Inhabited
def aj.cd(x:aj):List CD:=[.i .i64 x.op,.i .i64 x.a,.i .i64 x.b,.i .i64 x.c_,.i .i64 x.d,.s x.name]
def aj.c(β:Bool)(x:aj):List AV:=[.int .i64 x.op,.int .i64 x.a,.int .i64 x.b,.int .i64 x.c_,.int .i64 x.d,.str x.name]
theorem aj.cS(β:Bool)(x:aj):x.cd.map (CD.av β)=x.c β:=by simp[aj.cd,aj.c,CD.eX,CD.fu,CD.eU,CD.df,Function.comp_def]
def aj.ok(N:Nat)(x:aj):Prop:=(x.name.size≤N)
theorem aj.ok.mono{N M:Nat}(hN:N≤M){x:aj}(h:x.ok N):x.ok M:=Nat.le_trans h hN
structure ah where
  name:ByteArray
  code:List aj
  deriving DecidableEq,Inhabited
def ah.cd(x:ah):List CD:=[.s x.name,.sl 6 (x.code.map aj.cd)]
def ah.c(β:Bool)(x:ah):List AV:=[.str x.name,.vs β 6 false (x.code.map (aj.c β))]
theorem ah.cS(β:Bool)(x:ah):x.cd.map (CD.av β)=x.c β:=by simp[ah.cd,ah.c,CD.eX,CD.fu,CD.eU,CD.df,Function.comp_def,aj.cS]
def ah.ok(N:Nat)(x:ah):Prop:=(x.name.size≤N)∧(x.code.length≤N)∧(∀y∈x.code,y.ok N)
theorem ah.ok.mono{N M:Nat}(hN:N≤M){x:ah}(h:x.ok N):x.ok M:=⟨Nat.le_trans h.1 hN,Nat.le_trans h.2.1 hN,fun y hy=>(h.2.2 y hy).mono hN⟩
structure ae where
  name:ByteArray
  methods:List ah
  deriving DecidableEq,Inhabited
def ae.cd(x:ae):List CD:=[.s x.name,.sl 2 (x.methods.map ah.cd)]
def ae.c(β:Bool)(x:ae):List AV:=[.str x.name,.vs β 2 false (x.methods.map (ah.c β))]
theorem ae.cS(β:Bool)(x:ae):x.cd.map (CD.av β)=x.c β:=by simp[ae.cd,ae.c,CD.eX,CD.fu,CD.eU,CD.df,Function.comp_def,ah.cS]
def ae.ok(N:Nat)(x:ae):Prop:=(x.name.size≤N)∧(x.methods.length≤N)∧(∀y∈x.methods,y.ok N)
theorem ae.ok.mono{N M:Nat}(hN:N≤M){x:ae}(h:x.ok N):x.ok M:=⟨Nat.le_trans h.1 hN,Nat.le_trans h.2.1 hN,fun y hy=>(h.2.2 y hy).mono hN⟩
end Go.AM
namespace Go.AM
section
variable {P:Program} {Θ:gQ} {Γ:aZ}
theorem cr{α:Type}(β:Bool)(sz:Nat)(ex:Bool)(l:List α)(ce:α→List AV):gq false (.vs β sz ex (l.map ce))=some (.int .i64 l.length):=by simp[gq,kf]
theorem ct{α:Type}{β:Bool}{sz:Nat}{ex:Bool}{l:List α}{ce:α→List AV}{k:Nat}(hk:k<l.length):bN sz (.vs β sz ex (l.map ce)) (k:Int)=some (.ip β (ce l[k])):=by
  simp[bN,hk]
theorem pa{cs:List AV}{n:Nat}(h:cs.length=n):sub cs 0 n=some cs:=by subst h;simp[sub]
theorem bM.cell{h:AH}{a:AV}{d:CD}{fp:List Nat}(o:bM h a d fp):cellsOf a=some [a]∧Go.AM.bC a=true∧Go.AM.aK a=true∧bF a=true:=by
  cases o<;>exact⟨rfl,rfl,rfl,rfl⟩
theorem ca.one{h h':AH}{d:CD}{v:AV}(f:ca h [.c d] v h'):∃new fp,h'=h++new∧bM h' v d fp∧fp.Nodup∧∀b∈fp,h.length≤b:=by
  obtain⟨vs,new,fp,rfl,rfl,o,nd,hb,_⟩:=f
  match vs,o with
  | [v],⟨f1,f2,e,o1,o2⟩=>
    have:f2=[]:=o2
    subst this
    simp only[List.append_nil]at e
    subst e
    exact⟨new,_,rfl,o1,nd,hb⟩
theorem ca.I5{h h':AH}{cs:List CD}{v:AV}(f:ca h [.a cs] v h'):∃as new fp,v=.agg as∧h'=h++new∧aJ h' as cs fp∧fp.Nodup∧∀b∈fp,h.length≤b:=by
  obtain⟨vs,new,fp,rfl,rfl,o,nd,hb,_⟩:=f
  match vs,o with
  | [v],⟨f1,f2,e,o1,o2⟩=>
    have:f2=[]:=o2
    subst this
    simp only[List.append_nil]at e
    subst e
    obtain⟨as,rfl,o1⟩:=o1
    exact⟨as,new,_,rfl,rfl,o1,nd,hb⟩
theorem T.qp{f:FuncId}{args:List AV}{h:AH}{d:CD}(t:T P Γ f args h fun v h'=>∃new fp,h'=h++new∧bM h' v d fp∧fp.Nodup∧∀b∈fp,h.length≤b):T P Γ f args h (ca h [.c d]):=
  t.fresh fun v h' ⟨new,fp,e,o,nd,hb⟩=>⟨[v],new,fp,rfl,e,⟨fp,[],by simp,o,rfl⟩,nd,hb⟩
theorem T.CT{f:FuncId}{args:List AV}{h:AH}{cs:List CD}(t:T P Γ f args h fun v h'=>∃as new fp,v=.agg as∧h'=h++new∧aJ h' as cs fp∧fp.Nodup∧∀b∈fp,h.length≤b):T P Γ f args h (ca h [.a cs]):=
  t.fresh fun v h' ⟨as,new,fp,e,e',o,nd,hb⟩=>⟨[v],new,fp,rfl,e',⟨fp,[],by simp,⟨as,e,o⟩,rfl⟩,nd,hb⟩
theorem T.CZ{f:FuncId}{args:List AV}{h:AH}{d:CD}(t:T P Γ f args h (ca h [.c d])):T P Γ f args h fun v h'=>v=d.av false∧h'=h:=t.frozen
theorem aJ.nil{h:AH}:aJ h [] [] []:=rfl
theorem aJ.i{h:AH}{k:IntKind}{n:Int}{as:List AV}{ds:List CD}{fp:List Nat}(o:aJ h as ds fp):aJ h (.int k n::as) (.i k n::ds) fp:=⟨[],fp,rfl,.i _ _,o⟩
theorem aJ.b{h:AH}{x:Bool}{as:List AV}{ds:List CD}{fp:List Nat}(o:aJ h as ds fp):aJ h (.bool x::as) (.b x::ds) fp:=⟨[],fp,rfl,.b _,o⟩
theorem aJ.s{h:AH}{x:ByteArray}{as:List AV}{ds:List CD}{fp:List Nat}(o:aJ h as ds fp):aJ h (.str x::as) (.s x::ds) fp:=⟨[],fp,rfl,.s _,o⟩
theorem aJ.o{h:AH}{a:AV}{d:CD}{as:List AV}{ds:List CD}{f1 f2:List Nat}(o1:bM h a d f1)(o:aJ h as ds f2):aJ h (a::as) (d::ds) (f1++f2):=⟨f1,f2,rfl,o1,o⟩
theorem lJ(h t:AH)(x:Nat×List AV):aS (h++some x::t) h.length=some x:=by simp[aS]
theorem yn(h t:AH)(x y:Option (Nat×List AV)):(h++x::t).set h.length y=h++y::t:=by simp
theorem CE{h t:AH}{x y:Option (Nat×List AV)}{b:Nat}(hb:b≠h.length):(h++x::t)[b]? = (h++y::t)[b]?:=by
  rcases Nat.lt_or_ge b h.length with h1|h1
  · rw[List.getElem?_append_left h1,List.getElem?_append_left h1]
  · rw[List.getElem?_append_right h1,List.getElem?_append_right h1]
    obtain⟨j,hj⟩:∃j,b-h.length=j+1:=⟨b-h.length-1,by omega⟩
    rw[hj];rfl
theorem uk{e:List AV}{l:List (List AV)}{h t:AH}{g:Nat}{cs vs:List AV}{off:Nat}(h1:off+vs.length≤cs.length)(h2:vs.all aK=true):
    (St.mk e l (h++some (g,cs)::t)).store (.gp h.length g off) vs=some ⟨e,l,h++some (g,over cs off vs)::t⟩:=by
  simp only[St.store,lJ,Option.bind_some,if_true,if_pos h1,h2,yn]
theorem gX{α β:Type}{l:List α}{f:α→List β}{sz:Nat}(h:∀x∈l,(f x).length=sz):((l.map f).flatten).length=l.length*sz:=by
  induction l with
  | nil=>simp
  | cons x l ih=>simp[ih (fun y hy=>h y (by simp[hy])),h x (by simp),Nat.succ_mul,Nat.add_comm]
theorem vo{α:Type}[DecidableEq α](cA:cn P Θ)(hm:P.follows .mixedOrders=true){F f:FuncId}{sz:Nat}(hE:xg P Θ Γ F (Hb sz f) [.t 4] [u,u,u,u,u,u,u,u,u,u,u,u,u,u,u,u,u,u,u,u,u,u,u,u,u])
    {β β':Bool} {l m:List α} {c c':α→List AV} (hb:l.length<1099511627776) (hx:∀x,(c x).length=sz∧(c x).all aK=true) (hy:∀x,(c' x).length=sz∧(c' x).all aK=true) {h:AH}
    (hf:∀x∈l,∀y∈m,T P Γ f [.agg (c x),.agg (c' y)] h fun v h'=>v=.bool (decide (x=y))∧h'=h):
    T P Γ F [.vs β sz false (l.map c),.vs β' sz false (m.map c')] h fun v h'=>v=.bool (decide (l=m))∧h'=h:=by
  have L0:=cr β sz false l c
  have L1:=cr β' sz false m c'
  generalize e0:AV.vs β sz false (l.map c)=a0 at *
  generalize e1:AV.vs β' sz false (m.map c')=a1 at *
  refine hE (ax cA hm [] _ _ _ ?_)
  unfold Hb
  simp only[EV,EL,L0,L1]
  refine aR (fun hne=>?_) (fun heq=>?_)
  · simp only[EV,EL]
    refine⟨rfl,?_⟩
    have hne:l.length≠m.length:=by intro e;rw[e]at hne;simp at hne
    rw[decide_eq_false (fun e=>hne (by rw[e]))]
  have hl:l.length=m.length:=by simp at heq;omega
  simp only[EV,EL]
  refine bU cA hm [] (fun k:Nat=>k≤l.length∧∀(i:Nat) (h1:i<l.length) (h2:i<m.length),i<k→l[i]=m[i]) (fun k=>l.length-k)
    (fun k=>⟨[a0,a1,.any,.any,.any,.int .i64 k,.any,.any,.any,.any,.any,.any,.any,.any,.any,.any,.any,.any,.any,.any,.any,.any,.any,.any,.any,.any,.any],[],h⟩) 0 ⟨by omega,fun i _ _ h=>by omega⟩ ⟨by simp[cG,cI],rfl,rfl⟩ ?_
  rintro k ⟨hk,ht⟩
  simp only[EV,EL,L0]
  refine aR (fun hlt=>?_) (fun hge=>?_)
  · have hlt:k<l.length:=by simpa using hlt
    have hlt':k<m.length:=by omega
    have i0:=ct (β:=β) (sz:=sz) (ex:=false) (ce:=c) hlt
    have i1:=ct (β:=β') (sz:=sz) (ex:=false) (ce:=c') hlt'
    rw[e0]at i0
    rw[e1]at i1
    have l0:=pa (hx l[k]).1
    have l1:=pa (hy m[k]).1
    simp only[EV,EL,Hm,i0,i1,l0,l1,Option.bind_some]
    refine an.val (by simp only[EO,(hx l[k]).2,(hy m[k]).2]) (hf _ (List.getElem_mem hlt) _ (List.getElem_mem hlt')) ?_
    simp only[EV,EL]
    by_cases hp:l[k]=m[k]
    · simp only[EV,EL,hp,decide_true,Bool.not_true]
      refine⟨k+1,⟨hlt,fun i g1 g2 hik=>?_⟩,by omega,⟨?_,rfl,rfl⟩⟩
      · rcases Nat.lt_or_ge i k with g|g
        · exact ht i g1 g2 g
        · have:i=k:=by omega
          subst this;exact hp
      · rw[wN (by omega)]
        simp[cG,cI]
    · simp only[EV,EL,decide_eq_false hp,Bool.not_false]
      refine⟨rfl,?_⟩
      rw[decide_eq_false (fun e=>hp (by subst e;rfl))]
  · have hge:k=l.length:=by simp at hge;omega
    simp only[EV,EL]
    refine⟨rfl,?_⟩
    rw[decide_eq_true (List.ext_getElem hl fun i g1 g2=>ht i g1 g2 (by omega))]
end
end Go.AM
namespace Go.AM
section
variable {P:Program} {Θ:gQ} {Γ:aZ}
def CD.flat:CD→Bool|.sl _ _=>false|_=>true
theorem CD.mz{h:AH}{d:CD}(hd:d.flat=true)(β:Bool):bM h (d.av β) d []:=by
  cases d<;>first|(simp[CD.flat]at hd;done)|(simp only[CD.av];constructor)
theorem nz{h:AH}(β:Bool):∀{cs:List CD},cs.all CD.flat=true→aJ h (cs.map (CD.av β)) cs []
  | [],_=>rfl
  | d::r,hc=>by
    simp only[List.all_cons,Bool.and_eq_true]at hc
    exact⟨[],[],rfl,CD.mz hc.1 β,nz β hc.2⟩
theorem T.flat{f:FuncId}{args:List AV}{h:AH}{x:List AV}(t:T P Γ f args h fun v h'=>v=.agg x∧h'=h){cs:List CD}(hc:cs.all CD.flat=true)(hx:x=cs.map (CD.av false)):T P Γ f args h (ca h [.a cs]):=by
  refine T.CT (t.mono ?_)
  rintro v h' ⟨rfl,rfl⟩
  exact⟨_,[],[],rfl,by simp,by rw[hx];exact nz false hc,by simp,by simp⟩
theorem aq(a b:Int):(a != b) = !decide (a=b):=by by_cases h:a=b<;>simp[h]
theorem cJ(a b:Bool):(a == b)=decide (a=b):=by cases a<;>cases b<;>rfl
theorem qI(bs:ByteArray):∀(n i:Nat) (r:List UInt8),bs.size-i=n→ByteArray.toList.loop bs i r=r.reverse++bs.data.toList.drop i:=by
  intro n
  induction n with
  | zero=>
    intro i r h
    unfold ByteArray.toList.loop
    have hs:bs.data.toList.length=bs.size:=rfl
    rw[if_neg (by omega),List.drop_of_length_le (by omega),List.append_nil]
  | succ n ih=>
    intro i r h
    have hs:bs.data.toList.length=bs.size:=rfl
    unfold ByteArray.toList.loop
    rw[if_pos (by omega),ih (i+1) _ (by omega),List.drop_eq_getElem_cons (show i<bs.data.toList.length by omega)]
    have hi:i<bs.data.size:=by simpa using(show i<bs.data.toList.length by omega)
    have e:bs.data[i]! = bs.data[i]:=by rw[getElem!_pos bs.data i hi]
    simp[ByteArray.get!,e]
theorem toList_eq(b:ByteArray):b.toList=b.data.toList:=by
  unfold ByteArray.toList
  rw[qI b _ 0 [] rfl];simp
theorem str_inj{a b:ByteArray}(h:a.toList=b.toList):a=b:=by
  rw[toList_eq,toList_eq]at h
  exact ByteArray.ext (Array.ext' h)
theorem dq(a b:ByteArray):(a.toList == b.toList)=decide (a=b):=by
  by_cases h:a=b
  · subst h;simp
  · rw[decide_eq_false h];simp;exact fun e=>h (str_inj e)
end
end Go.AM
namespace Go.AM
theorem EY:type_of% (And.intro EV (And.intro EL (And.intro EB (And.intro @Bool.false_eq_true (And.intro @if_true.{1} (And.intro @if_false.{1} (@Option.bind_some.{0,0}))))))):=And.intro EV (And.intro EL (And.intro EB (And.intro @Bool.false_eq_true (And.intro @if_true.{1} (And.intro @if_false.{1} (@Option.bind_some.{0,0}))))))
end Go.AM
