import Derived.Test.YtdlbaonelfcahaaGreatDoorAmG5
import Derived.Laws.StructEq
set_option linter.unusedVariables false
set_option linter.unusedSimpArgs false
namespace Go.AM
section
variable {P:Program}
def mc:TK→Bool|.int _|.bool|.str=>true|_=>false
def iU(P:Program):List Field→Nat→List TK→Bool
  | [],_,[]=>true
  | f::fs,o,k::ks=>f.name != "_" && f.offset == o && (match P.underlying f.type with|some d=>jG d == k && mc k|none=>false) && iU P fs (o+1) ks
  | _,_,_=>false
def uy(P:Program)(t:TypeId)(ks:List TK):Bool:=
  !P.eqGuardType P.depth t && !P.stoodInHeld t && match P.underlying t with|some (.struct fs)=>iU P fs.toList 0 ks|_=>false
theorem so{t:TypeId}{d:TypeDesc}(hu:P.underlying t=some d)(hb:mc (jG d)=true){xs:Array Value}{off:Nat}{v:Value}(hx:xs[off]? = some v)(w:World):(part t xs off).run P w=.ok v w:=by
  cases d<;>simp[jG,mc]at hb<;>simp[part,isAgg,run_underlying hu,hx]
theorem nh(d:Nat){w:World}{ρ:cN}{ls:List Nat}{xs ys:Array Value}:∀(fs:List Field) (o:Nat) (ks:List TK) (zas bs:List AV) (r:Bool),iU P fs o ks=true→
    (∀(i:Nat) (x:AV),zas[i]? = some x→∃y,xs[o+i]? = some y∧RV ρ ls x y)→(∀(i:Nat) (x:AV),bs[i]? = some x→∃y,ys[o+i]? = some y∧RV ρ ls x y)→pq ks zas bs=some r→
    (Op.eqFields (d+1) xs ys fs).run P w=.ok r w
  | [],o,[],zas,bs,r,hf,ha,hb,h=>by
    match zas,bs,h with
    | [],[],h=>simp[pq]at h;subst h;simp[Op.eqFields]
  | f::fs,o,k::ks,zas,bs,r,hf,ha,hb,h=>by
    match zas,bs,h with
    | a::zas,b::bs,h=>
      simp only[pq]at h
      obtain⟨e,h1,h2⟩:=gB h
      rw[Option.map_eq_some_iff]at h2
      obtain⟨e',h2,rfl⟩:=h2
      simp only[iU,Bool.and_eq_true,bne_iff_ne,ne_eq,beq_iff_eq]at hf
      obtain⟨⟨⟨f1,f2⟩,f3⟩,f4⟩:=hf
      obtain⟨y1,p1,r1⟩:=ha 0 a rfl
      obtain⟨y2,p2,r2⟩:=hb 0 b rfl
      have ih:=nh d (w:=w) fs (o+1) ks zas bs e' f4 (fun i x hx=>by have:=ha (i+1) x (by simpa using hx);rwa[show o+(i+1)=o+1+i by omega]at this)
        (fun i x hx=>by have:=hb (i+1) x (by simpa using hx);rwa[show o+(i+1)=o+1+i by omega]at this) h2
      split at f3
      · rename_i d' hu
        simp only[Bool.and_eq_true,beq_iff_eq]at f3
        obtain⟨f3,f5⟩:=f3
        have f6:mc (jG d')=true:=by rw[f3];exact f5
        have q1:=so hu f6 (xs:=xs) (off:=o) (v:=y1) (by simpa using p1) w
        have q2:=so hu f6 (xs:=ys) (off:=o) (v:=y2) (by simpa using p2) w
        have q3:(Op.equalIn (d+1) f.type y1 y2).run P w=.ok e w:=by
          rw[←f3]at h1
          cases d'<;>simp[jG,mc]at f6<;>simp only[jG]at h1<;>unfold yd at h1<;>(split at h1)<;>(try (cases h1;done))<;>rename_i h3<;>(try (cases h3;done))
          all_goals skip
          · injection h1 with h1;cases r1;cases r2;subst h1
            exact run_equalIn_bool' w d f.type _ _ hu
          · split at h1
            · rename_i hk
              injection h1 with h1;cases r1;cases r2;subst h1;subst hk
              exact run_equalIn_int w d f.type _ _ _ _ hu
            · cases h1
          · injection h1 with h1;cases r1;cases r2;subst h1
            exact run_equalIn_string w d f.type _ _ hu
        simp only[Op.eqFields,f1,ne_eq,not_false_eq_true,if_true,f2,Sem.run_bind,q1,q2,q3,Result.andThen_ok]
        cases e
        · simp
        · simpa using ih
      · cases f3
  | [],_,_::_,_,_,_,hf,_,_,_=>by simp[iU]at hf
  | _::_,_,[],_,_,_,hf,_,_,_=>by simp[iU]at hf
theorem xS{t:TypeId}{ks:List TK}(h:uy P t ks=true):oP P t ks:=by
  simp only[uy,Bool.and_eq_true,Bool.not_eq_true']at h
  obtain⟨⟨h1,h2⟩,h3⟩:=h
  refine⟨h1,fun w ρ ls zas bs xs ys r ra rb ha=>?_⟩
  cases hu:P.underlying t with
  | none=>simp[hu]at h3
  | some d=>
    cases d<;>simp[hu]at h3
    rename_i fs
    have hfs:P.fieldsOf t=fs:=by simp[Program.fieldsOf,hu]
    unfold Op.equal
    have look:∀{zas:List AV} {xs:Array Value},eB ρ ls zas xs.toList→∀(i:Nat) (x:AV),zas[i]? = some x→∃y,xs[0+i]? = some y∧RV ρ ls x y:=by
      intro zas xs ra i x hx
      have hl:=aK hx
      have h:=ra.2 i x hx
      have hl':i<xs.toList.length:=by rw[←ra.1];exact hl
      have hl'':i<xs.size:=by simpa using hl'
      refine⟨xs[i],by simp[hl''],?_⟩
      simpa[List.getD_eq_getElem?_getD,hl'']using h
    rw[show Op.maxDepth=(Op.maxDepth-1)+1 from rfl,run_equalIn_struct w _ t xs ys (by rw[hfs];exact hu) h2,hfs]
    rw[show Op.maxDepth-1=(Op.maxDepth-2)+1 from rfl]
    exact nh _ fs.toList 0 ks zas bs r h3 (look ra) (look rb) ha
def CK(L:List (Nat×TI)):jL:=fun t=>(L.find? fun p=>p.1 == t).map (·.2)
theorem CR{L:List (Nat×TI)}(h1:(L.map fun p=>K2 P p.1)=L.map fun p=>some (p.2.kd,p.2.size,p.2.bytes,p.2.zero,true))
    (h2:(L.all fun p=>match p.2.plainEq with|none=>true|some ks=>uy P p.1 ks)=true):cX P (CK L):=by
  intro t ti h
  unfold CK at h
  rw[Option.map_eq_some_iff]at h
  obtain⟨p,hp,rfl⟩:=h
  have hm:=List.mem_of_find?_eq_some hp
  have ht:p.1=t:=by simpa using List.find?_some hp
  subst ht
  refine⟨List.map_inj_left.1 h1 p hm,fun ks hk=>?_⟩
  have:=List.all_eq_true.1 h2 p hm
  simp only[hk]at this
  exact xS this
def aG(f:Func):Code:=match f.body with|some c=>c|none=>.skip
abbrev u:AV:=.tup []
end
end Go.AM
namespace Go.AM
section
variable {P:Program} {Θ:jL} {Γ:bG}
theorem AK(a:AV)(l:List AV)(d:AV):(a::l).getD 0 d=a:=rfl
theorem BH(a b:AV)(l:List AV)(d:AV):(a::b::l).getD 1 d=b:=rfl
theorem B7(a b c:AV)(l:List AV)(d:AV):(a::b::c::l).getD 2 d=c:=rfl
theorem De(a b c e:AV)(l:List AV)(d:AV):(a::b::c::e::l).getD 3 d=e:=rfl
theorem Cq(a0 a1 a2 a3:AV)(l:List AV)(n:Nat)(d:AV):(a0::a1::a2::a3::l).getD (n+4) d=l.getD n d:=rfl
theorem zp(a0 a1 a2 a3 a4 a5 a6 a7 a8 a9 b0 b1 b2 b3 b4 b5:AV)(l:List AV)(n:Nat)(d:AV):
    (a0::a1::a2::a3::a4::a5::a6::a7::a8::a9::b0::b1::b2::b3::b4::b5::l).getD (n+16) d=l.getD n d:=rfl
theorem B0(a:AV)(l:List AV)(v:AV):(a::l).set 0 v=v::l:=rfl
theorem Bd(a b:AV)(l:List AV)(v:AV):(a::b::l).set 1 v=a::v::l:=rfl
theorem Cc(a b c:AV)(l:List AV)(v:AV):(a::b::c::l).set 2 v=a::b::v::l:=rfl
theorem B9(a b c e:AV)(l:List AV)(v:AV):(a::b::c::e::l).set 3 v=a::b::c::v::l:=rfl
theorem Ct(a0 a1 a2 a3:AV)(l:List AV)(n:Nat)(v:AV):(a0::a1::a2::a3::l).set (n+4) v=a0::a1::a2::a3::l.set n v:=rfl
theorem zB(a0 a1 a2 a3 a4 a5 a6 a7 a8 a9 b0 b1 b2 b3 b4 b5:AV)(l:List AV)(n:Nat)(v:AV):
    (a0::a1::a2::a3::a4::a5::a6::a7::a8::a9::b0::b1::b2::b3::b4::b5::l).set (n+16) v=a0::a1::a2::a3::a4::a5::a6::a7::a8::a9::b0::b1::b2::b3::b4::b5::l.set n v:=rfl
theorem LZ(e:List AV)(l:List (List AV))(h:AH)(n:Nat):(St.mk e l h).eval Γ (.t n)=e.getD n .any:=rfl
theorem Tr(s:St)(v:AV):s.eval Γ (.c v)=v:=rfl
theorem Ib(e:List AV)(l:List (List AV))(h:AH)(d:Nat)(v:AV):(St.mk e l h).put (some d) v=⟨e.set d v,l,h⟩:=rfl
theorem IL(s:St)(v:AV):s.put none v=s:=rfl
theorem N0:∀(gl:Gl) (g:Option (Nat×Bool)) (i:I),iM gl ⟨none,g,i⟩=false:=fun _ _ _=>rfl
theorem MQ(d:Nat)(g:Option (Nat×Bool))(i:I):iM [] ⟨some d,g,i⟩=false:=rfl
def yp(P:Program)(Γ:bG)(K:St→Prop)(dst:Option Nat)(s:St)(g:Option Bool)(r:AR):Prop:=
  match g with
  | none=>False
  | some t=>br t (match r with|.val v s'=>K (s'.put dst v)|.call f args=>aq P Γ f args s fun v s'=>K (s'.put dst v)|.stuck=>False) (K (s.put dst (.tup [])))
theorem Yi(K:St→Prop)(d:Option Nat)(s:St)(v:AV)(s':St):yp P Γ K d s (some true) (.val v s')=K (s'.put d v):=propext (vg _ _)
theorem Yd(K:St→Prop)(d:Option Nat)(s:St)(f:FuncId)(args:List AV):yp P Γ K d s (some true) (.call f args)=aq P Γ f args s fun v s'=>K (s'.put d v):=propext (vg _ _)
theorem XR(K:St→Prop)(d:Option Nat)(s:St)(r:AR):yp P Γ K d s (some false) r=K (s.put d (.tup [])):=propext (wi _ _)
theorem js{K:St→Prop}{d:Option Nat}{s:St}{t:Bool}{r:AR}(h1:t=true→yp P Γ K d s (some true) r)(h2:t=false→yp P Γ K d s (some false) r):yp P Γ K d s (some t) r:=by
  cases t
  · exact h2 rfl
  · exact h1 rfl
theorem XN(gl:Gl)(os:List O)(K:St→Prop)(s:St):dI P Γ gl os [] K s=K s:=rfl
theorem Xd(gl:Gl)(os:List O)(o:O)(r:List O)(K:St→Prop)(s:St):dI P Γ gl os (o::r) K s=yp P Γ (dI P Γ gl os r K) o.dst s (guardOf os s o.gd) (step Γ (iM gl o) s o.op):=by
  simp only[dI,yp]
  cases guardOf os s o.gd with
  | none=>rfl
  | some t=>cases step Γ (iM gl o) s o.op<;>rfl
theorem QI(os:List O)(s:St):guardOf os s none=some true:=rfl
def qN:List O→Nat→Option Nat
  | [],_=>none
  | o::_,0=>o.dst
  | _::os,n+1=>qN os n
theorem zl:∀(os:List O) (j:Nat),(os[j]?).bind (·.dst)=qN os j
  | [],_=>by simp[qN]
  | o::os,0=>by simp[qN]
  | o::os,n+1=>by simpa[qN]using zl os n
def xP(w:Bool):AV→Option Bool|.bool b=>some (b == w)|.any|.opq _=>none|_=>some false
def V9(e:List AV)(w:Bool):Option Nat→Option Bool|none=>some false|some d=>xP w (e.getD d (.tup []))
theorem Nz(d:Option Nat)(g:Option (Nat×Bool))(i:I)(os:List O):qN (⟨d,g,i⟩::os) 0=d:=rfl
theorem O9(o:O)(os:List O)(n:Nat):qN (o::os) (n+1)=qN os n:=rfl
theorem Nv(os:List O)(e:List AV)(l:List (List AV))(h:AH)(j:Nat)(w:Bool):guardOf os ⟨e,l,h⟩ (some (j,w))=V9 e w (qN os j):=by
  simp only[guardOf,zl,V9]
  cases qN os j with
  | none=>rfl
  | some d=>
    simp only[List.getD_eq_getElem?_getD]
    cases e[d]? with
    | none=>rfl
    | some v=>cases v<;>rfl
theorem RR(e:List AV)(w:Bool)(d:Nat):V9 e w (some d)=xP w (e.getD d (.tup [])):=rfl
theorem NU(b:Bool):xP true (.bool b)=some b:=by simp[xP]
theorem Pu(b:Bool):xP false (.bool b)=some (!b):=by simp[xP]
theorem Uq(w:Bool):xP w (.tup [])=some false:=rfl
theorem jU{K:St→Prop}{d:Option Nat}{s:St}{t:Bool}{r:AR}(h1:t=true→yp P Γ K d s (some false) r)(h2:t=false→yp P Γ K d s (some true) r):yp P Γ K d s (some (!t)) r:=by
  cases t
  · exact h2 rfl
  · exact h1 rfl
def wb(A B:St→Prop)(s:St):AV→Prop
  | .bool t=>br t (A s) (B s)
  | _=>False
theorem Yq(A B:St→Prop)(s:St):wb A B s (.bool true)=A s:=propext (vg _ _)
theorem Ya(A B:St→Prop)(s:St):wb A B s (.bool false)=B s:=propext (wi _ _)
theorem ba{A B:St→Prop}{s:St}{t:Bool}(h1:t=true→A s)(h2:t=false→B s):wb A B s (.bool t):=⟨h1,h2⟩
theorem A8(gl:Gl)(Q:AE→St→Prop)(s:St):aw P Θ Γ gl .skip Q s=Q .normal s:=rfl
theorem Ff(gl:Gl)(os:List O)(Q:AE→St→Prop)(s:St):aw P Θ Γ gl (.reg os) Q s=dI P Γ gl os os (Q .normal) s:=rfl
theorem IX(gl:Gl)(a b:C)(Q:AE→St→Prop)(s:St):aw P Θ Γ gl (.seq a b) Q s=aw P Θ Γ gl a (hJ (aw P Θ Γ gl b Q) Q) s:=rfl
theorem Bl(gl:Gl)(c:X)(a b:C)(Q:AE→St→Prop)(s:St):aw P Θ Γ gl (.cond c a b) Q s=wb (aw P Θ Γ gl a Q) (aw P Θ Γ gl b Q) s (s.eval Γ c):=by
  simp only[aw,wb];cases s.eval Γ c<;>rfl
theorem yQ(gl:Gl)(id:Nat)(c:C)(Q:AE→St→Prop)(s:St):aw P Θ Γ gl (.block id c) Q s=aw P Θ Γ gl c (gH id Q) s:=rfl
theorem CV(gl:Gl)(c:C)(Q:AE→St→Prop)(s:St):aw P Θ Γ gl (.loop c) Q s=TC P Θ Γ (.loop c) Q s:=rfl
theorem Bp(gl:Gl)(id:Nat)(Q:AE→St→Prop)(s:St):aw P Θ Γ gl (.exit id) Q s=Q (.exit id) s:=rfl
theorem Fw(gl:Gl)(Q:AE→St→Prop)(s:St):aw P Θ Γ gl .ret Q s=Q .ret s:=rfl
theorem Ow(K:St→Prop)(Q:AE→St→Prop):hJ K Q .normal=K:=rfl
theorem O7(K:St→Prop)(Q:AE→St→Prop)(id:Nat):hJ K Q (.exit id)=Q (.exit id):=rfl
theorem Nd(K:St→Prop)(Q:AE→St→Prop):hJ K Q .ret=Q .ret:=rfl
theorem Qk(id:Nat)(Q:AE→St→Prop):gH id Q .normal=Q .normal:=rfl
theorem RU(id:Nat)(Q:AE→St→Prop):gH id Q .ret=Q .ret:=rfl
theorem Mp(id:Nat)(Q:AE→St→Prop):gH id Q (.exit id)=Q .normal:=by funext s;simp[gH]
theorem ah(id i:Nat)(Q:AE→St→Prop)(h:(i == id)=false):gH id Q (.exit i)=Q (.exit i):=by
  funext s;simp only[gH];rw[if_neg (by simpa using h)]
def iF:Nat→Nat→D→Bool
  | 0,_,.done=>true
  | n+1,i,.q j d=>i == j && iF n (i+1) d
  | _,_,_=>false
def R9(os:List O)(af:List (List Nat)):Bool:=match sched os af os.length (List.replicate os.length false)with|some d=>iF os.length 0 d|none=>false
theorem wW(gl:Gl)(os:List O)(K:St→Prop):∀(n i:Nat) (d:D) (s:St),i+n=os.length→iF n i d=true→bV P Γ gl os K n d s=dI P Γ gl os (os.drop i) K s
  | 0,i,.done,s,hi,_=>by rw[List.drop_of_length_le (by omega)];rfl
  | n+1,i,.q j d,s,hi,h=>by
    simp only[iF,Bool.and_eq_true,beq_iff_eq]at h
    obtain⟨rfl,h⟩:=h
    have hil:i<os.length:=by omega
    rw[List.drop_eq_getElem_cons hil,Xd]
    simp only[bV,pb,List.getElem?_eq_getElem hil,yp]
    cases guardOf os s os[i].gd with
    | none=>rfl
    | some t=>
      have:∀s,bV P Γ gl os K n d s=dI P Γ gl os (os.drop (i+1)) K s:=fun s=>wW gl os K n (i+1) d s (by omega) h
      have e:bV P Γ gl os K n d=dI P Γ gl os (os.drop (i+1)) K:=funext this
      rw[e]
      simp only
      cases step Γ (iM gl os[i]) s os[i].op<;>rfl
  | n+1,_,.done,_,_,h=>by simp[iF]at h
  | n+1,_,.all _,_,_,h=>by simp[iF]at h
  | 0,_,.q _ _,_,_,h=>by simp[iF]at h
  | 0,_,.all _,_,_,h=>by simp[iF]at h
  | n+1,_,.st _ _ _,_,_,h=>by simp[iF]at h
  | 0,_,.st _ _ _,_,_,h=>by simp[iF]at h
theorem TM{os:List O}{af:List (List Nat)}(h:R9 os af=true)(gl:Gl)(Q:AE→St→Prop)(s:St):aw P Θ Γ gl (.regD os af) Q s=dI P Γ gl os os (Q .normal) s:=by
  unfold R9 at h
  simp only[aw]
  split at h
  · rename_i d hd
    rw[hd]
    exact wW gl os _ os.length 0 d s (by omega) h
  · cases h
theorem eX{os:List O}{af:List (List Nat)}{n:Nat}{d:D}(hn:os.length=n)(h:sched os af n (List.replicate n false)=some d)(gl:Gl)(Q:AE→St→Prop)(s:St):aw P Θ Γ gl (.regD os af) Q s=bV P Γ gl os (Q .normal) n d s:=by
  subst hn
  simp only[aw,h]
theorem Bb(da:cX P Θ)(hm:P.follows .mixedOrders=true)(gl:Gl):∀(c:C) (Q:AE→St→Prop) (s:St),aw P Θ Γ gl c Q s→wa P Θ Γ gl c Q s:=by
  intro c
  induction c with
  | skip=>exact fun _ _ h=>h
  | reg os=>exact fun _ _ h=>h
  | regD os af=>
    intro Q s h
    simp only[aw]at h
    split at h
    · rename_i d hd
      exact zn da hm gl (qe _ _ d s (qt _ _) hd h)
    · exact h.elim
  | seq a b iha ihb=>
    intro Q s h
    exact pD a s (fun e s he=>by cases e<;>simp only[hJ]at he ⊢<;>first|exact ihb Q s he|exact he) (iha _ s h)
  | cond c a b iha ihb=>
    intro Q s h
    simp only[aw,wa]at h ⊢
    split at h
    · rename_i t ht
      simp only[ht]
      exact⟨fun ht=>iha Q s (h.1 ht),fun ht=>ihb Q s (h.2 ht)⟩
    · exact h.elim
  | block id c ih=>exact fun Q s h=>ih _ s h
  | loop c=>exact fun _ _ h=>h
  | exit id=>exact fun _ _ h=>h
  | ret=>exact fun _ _ h=>h
theorem loop(da:cX P Θ)(hm:P.follows .mixedOrders=true)(gl:Gl){c:C}{Q:AE→St→Prop}{s:St}{α:Type}(μ:α→Nat)(st:α→St)(x:α)(hs:Le s (st x))
    (round:∀x,aw P Θ Γ gl c (hJ (fun s'=>∃y,μ y<μ x∧Le s' (st y)) Q) (st x)):TC P Θ Γ (.loop c) Q s:=
  TC.le hs (yy da gl μ st (fun x=>Bb da hm gl _ _ _ (round x)) x)
theorem bD(da:cX P Θ)(hm:P.follows .mixedOrders=true)(gl:Gl){c:C}{Q:AE→St→Prop}{s:St}{α:Type}(I:α→Prop)(μ:α→Nat)(st:α→St)(x:α)(hx:I x)(hs:Le s (st x))
    (round:∀x,I x→aw P Θ Γ gl c (hJ (fun s'=>∃y,I y∧μ y<μ x∧Le s' (st y)) Q) (st x)):TC P Θ Γ (.loop c) Q s:=by
  refine TC.le hs (yy da gl (fun y:{ y // I y }=>μ y.1) (fun y=>st y.1) (fun y=>pD _ _ ?_ (Bb da hm gl _ _ _ (round y.1 y.2))) ⟨x,hx⟩)
  intro e s h
  cases e<;>simp only[hJ]at h ⊢
  · obtain⟨y,h1,h2,h3⟩:=h
    exact⟨⟨y,h1⟩,h2,h3⟩
  · exact h
  · exact h
def CL(K:AV→AH→Prop)(h:AH):Option AV→Prop
  | some v=>cR v=true∧K v h
  | none=>False
theorem XD(rs:List RS)(K:AV→AH→Prop)(s:St):aW rs K .ret s=CL K s.heap (o7 s rs):=by
  simp only[aW,CL];cases o7 s rs<;>rfl
theorem XW(rs:List RS)(K:AV→AH→Prop)(s:St):aW rs K .normal s=CL K s.heap (o7 s rs):=by
  simp only[aW,CL];cases o7 s rs<;>rfl
theorem XB(K:AV→AH→Prop)(h:AH)(v:AV):CL K h (some v)=(cR v=true∧K v h):=rfl
theorem X1(s:St)(r:RS):o7 s [r]=mb s r:=rfl
theorem Yf(s:St)(r q:RS)(l:List RS):o7 s (r::q::l)=((r::q::l).mapM (mb s)).map .tup:=rfl
theorem Ni(e:List AV)(l:List (List AV))(h:AH)(n:Nat):mb ⟨e,l,h⟩ (.t n)=some (e.getD n .any):=rfl
theorem PD(e:List AV)(l:List (List AV))(h:AH)(a n:Nat)(agg:Bool):mb ⟨e,l,h⟩ (.cell a n agg)=((St.mk e l h).cells (e.getD a .any) n).bind (fy agg):=rfl
theorem FI(s:St)(v:AV):AR.eI s (some v)=.val v s:=rfl
theorem HA(s:St):AR.AG (some s)=.val (.tup []) s:=rfl
theorem Iz(v:AV)(s:St):AR.Al (some (v,s))=.val v s:=rfl
theorem FN(gl:Bool)(s:St)(x:X):step Γ gl s (.mov x)=.val (s.eval Γ x) s:=rfl
theorem F6(gl:Bool)(s:St)(op:BinOp)(ek:EK)(x y:X):step Γ gl s (.bin op ek x y)=.eI s (bU op ek (s.eval Γ x) (s.eval Γ y)):=rfl
def CM(a b:AV)(s:St):AV→AR|.bool t=>.val (if t=true then a else b) s|_=>.stuck
theorem Ca(gl:Bool)(s:St)(c a b:X):step Γ gl s (.pick c a b)=CM (s.eval Γ a) (s.eval Γ b) s (s.eval Γ c):=by simp only[step,CM];cases s.eval Γ c<;>rfl
theorem Ua(a b:AV)(s:St)(t:Bool):CM a b s (.bool t)=.val (if t=true then a else b) s:=rfl
theorem Ro(gl:Bool)(s:St)(op:UnOp)(x:X):step Γ gl s (.un op x)=.eI s (Lh op (s.eval Γ x)):=rfl
def fu(b:Bool)(v:AV):Option AV:=(nX b v).map fun n:Nat=>.int .i64 (n:Int)
theorem GV(gl:Bool)(s:St)(b:Bool)(x:X):step Γ gl s (.len b x)=.eI s (fu b (s.eval Γ x)):=by
  simp only[step,fu];cases nX b (s.eval Γ x)<;>rfl
def BZ(s:St)(sz:Nat)(x:AV):AV→AR|.int _ n=>.eI s (cm sz x n)|_=>.stuck
theorem Bz(gl:Bool)(s:St)(sz:Nat)(x i:X):step Γ gl s (.idxs sz x i)=BZ s sz (s.eval Γ x) (s.eval Γ i):=by simp only[step,BZ];cases s.eval Γ i<;>rfl
theorem zG(s:St)(sz:Nat)(x:AV)(k:IntKind)(n:Int):BZ s sz x (.int k n)=.eI s (cm sz x n):=rfl
theorem BI(gl:Bool)(s:St)(n:Nat)(b:Bool)(a:X):step Γ gl s (.load n b a)=.eI s ((s.cells (s.eval Γ a) n).bind (fy b)):=rfl
theorem H7(gl:Bool)(s:St)(off:Nat)(x:X):step Γ gl s (.fld off x)=.eI s (mz off (s.eval Γ x)):=rfl
theorem L5(k:IntKind)(a b:Int):bU .eql .num (.int k a) (.int k b)=some (.bool (a == b)):=by simp[bU,fh]
theorem TD(k:IntKind)(a b:Int):bU .neq .num (.int k a) (.int k b)=some (.bool (a != b)):=by simp[bU,fh]
theorem M7(k:IntKind)(a b:Int):bU .lss .num (.int k a) (.int k b)=some (.bool (decide (a<b))):=by simp[bU,fh]
theorem OI(k:IntKind)(a b:Int):bU .leq .num (.int k a) (.int k b)=some (.bool (decide (a≤b))):=by simp[bU,fh]
theorem Ma(k:IntKind)(a b:Int):bU .gtr .num (.int k a) (.int k b)=some (.bool (decide (b<a))):=by simp[bU,fh]
theorem Ud(k:IntKind)(a b:Int):bU .geq .num (.int k a) (.int k b)=some (.bool (decide (b≤a))):=by simp[bU,fh]
theorem EJ(k:IntKind)(a b:Int):bU .add .num (.int k a) (.int k b)=some (.int k (k.wrap (a+b))):=by simp[bU,fh]
theorem IZ(k:IntKind)(a b:Int):bU .sub .num (.int k a) (.int k b)=some (.int k (k.wrap (a-b))):=by simp[bU,fh]
theorem Jt(k:IntKind)(a b:Int):bU .mul .num (.int k a) (.int k b)=some (.int k (k.wrap (a*b))):=by simp[bU,fh]
theorem HU(a b:Bool):bU .neq .bool (.bool a) (.bool b)=some (.bool !(a == b)):=rfl
theorem Js(a b:Bool):bU .eql .bool (.bool a) (.bool b)=some (.bool (a == b)):=rfl
theorem JX(a b:ByteArray):bU .neq .num (.str a) (.str b)=some (.bool !(a.toList == b.toList)):=rfl
theorem Jm(a b:ByteArray):bU .eql .num (.str a) (.str b)=some (.bool (a.toList == b.toList)):=rfl
theorem Hl(b:Bool):Lh .not (.bool b)=some (.bool !b):=rfl
theorem Mk(off:Nat)(β:Bool)(cs:List AV):mz off (.ip β cs)=some (.ip β (cs.drop off)):=rfl
theorem N4(off i o:Nat):mz off (.lp i o)=some (.lp i (o+off)):=rfl
theorem Sx(off b g o:Nat):mz off (.gp b g o)=some (.gp b g (o+off)):=rfl
theorem PX(s:St)(β:Bool)(cs:List AV)(n:Nat):s.cells (.ip β cs) n=sub cs 0 n:=rfl
theorem Yc(x:AV):fy false [x]=some x:=rfl
theorem X4(cs:List AV):fy true cs=some (.agg cs):=rfl
inductive SH where
  | nil|v (β ex:Bool)
  deriving DecidableEq,Inhabited
def SH.β:SH→Bool|.nil=>false|.v β _=>β
def sl(s:SH)(sz:Nat)(xs:List (List AV)):AV:=match s with|.nil=>.nils|.v β ex=>.vs β sz ex xs
def SH.ok(s:SH)(n:Nat):Prop:=s=.nil→n=0
theorem aI{n:Int}(h0:-9223372036854775808≤n)(h1:n<9223372036854775808):IntKind.i64.wrap n=n:=by
  simp[IntKind.wrap,IntKind.bits,IntKind.signed,IntKind.max,IntKind.min]
  omega
theorem RX(x:AV):sub [x] 0 1=some [x]:=rfl
theorem EV:type_of% (And.intro @A8 (And.intro @Ff (And.intro @IX (And.intro @Bl (And.intro @yQ (And.intro @CV (And.intro @Bp (And.intro @Fw (And.intro @Ow (And.intro @O7 (And.intro @Nd (And.intro @Qk (And.intro @RU (And.intro @Mp (And.intro @XN (And.intro @Xd (And.intro @Yi (And.intro @Yd (And.intro @XR (And.intro @Yq (And.intro @Ya (And.intro @QI (And.intro @N0 (And.intro @MQ (And.intro @Ib (And.intro @IL (And.intro @LZ (And.intro @Tr (And.intro @AK (And.intro @BH (And.intro @B7 (And.intro @De (And.intro @Cq (And.intro @zp (And.intro @B0 (And.intro @Bd (And.intro @Cc (And.intro @B9 (And.intro @Ct (And.intro @zB (And.intro @FI (And.intro @HA (And.intro @Iz (And.intro @FN (And.intro @F6 (And.intro @Ro (And.intro @GV (And.intro @Bz (And.intro @zG (And.intro @BI (And.intro @H7 (And.intro @L5 (And.intro @TD (And.intro @M7 (And.intro @OI (And.intro @Ma (And.intro @Ud (And.intro @EJ (And.intro @IZ (And.intro @Jt (And.intro @Hl (And.intro @HU (And.intro @Js (And.intro @JX (And.intro @Jm (And.intro @Mk (And.intro @N4 (And.intro @Sx (And.intro @PX (And.intro @Yc (And.intro @X4 (And.intro @XD (And.intro @XW (And.intro @XB (And.intro @Nv (And.intro @RR (And.intro @Nz (And.intro @O9 (And.intro @NU (And.intro @Pu (And.intro @Uq (And.intro @Ca (And.intro @Ua (And.intro @X1 (And.intro @Yf (And.intro @Ni (And.intro @PD (@RX)))))))))))))))))))))))))))))))))))))))))))))))))))))))))))))))))))))))))))))))))))))))):=And.intro @A8 (And.intro @Ff (And.intro @IX (And.intro @Bl (And.intro @yQ (And.intro @CV (And.intro @Bp (And.intro @Fw (And.intro @Ow (And.intro @O7 (And.intro @Nd (And.intro @Qk (And.intro @RU (And.intro @Mp (And.intro @XN (And.intro @Xd (And.intro @Yi (And.intro @Yd (And.intro @XR (And.intro @Yq (And.intro @Ya (And.intro @QI (And.intro @N0 (And.intro @MQ (And.intro @Ib (And.intro @IL (And.intro @LZ (And.intro @Tr (And.intro @AK (And.intro @BH (And.intro @B7 (And.intro @De (And.intro @Cq (And.intro @zp (And.intro @B0 (And.intro @Bd (And.intro @Cc (And.intro @B9 (And.intro @Ct (And.intro @zB (And.intro @FI (And.intro @HA (And.intro @Iz (And.intro @FN (And.intro @F6 (And.intro @Ro (And.intro @GV (And.intro @Bz (And.intro @zG (And.intro @BI (And.intro @H7 (And.intro @L5 (And.intro @TD (And.intro @M7 (And.intro @OI (And.intro @Ma (And.intro @Ud (And.intro @EJ (And.intro @IZ (And.intro @Jt (And.intro @Hl (And.intro @HU (And.intro @Js (And.intro @JX (And.intro @Jm (And.intro @Mk (And.intro @N4 (And.intro @Sx (And.intro @PX (And.intro @Yc (And.intro @X4 (And.intro @XD (And.intro @XW (And.intro @XB (And.intro @Nv (And.intro @RR (And.intro @Nz (And.intro @O9 (And.intro @NU (And.intro @Pu (And.intro @Uq (And.intro @Ca (And.intro @Ua (And.intro @X1 (And.intro @Yf (And.intro @Ni (And.intro @PD (@RX)))))))))))))))))))))))))))))))))))))))))))))))))))))))))))))))))))))))))))))))))))))))
end
end Go.AM
namespace Go.AM
section
variable {P:Program} {Θ:jL} {Γ:bG}
theorem aq.val{f:FuncId}{args:List AV}{s:St}{K:AV→St→Prop}{V:AV}(ho:args.all bX=true)(t:T P Γ f args s.heap fun v h'=>v=V∧h'=s.heap)(hk:K V s):aq P Γ f args s K:=
  aq.ref ho t (by rintro v h' ⟨rfl,rfl⟩;exact hk)
theorem EU(s:St):List.map (s.eval Γ) []=[]:=rfl
theorem GN(s:St)(x:X)(xs:List X):List.map (s.eval Γ) (x::xs)=s.eval Γ x::List.map (s.eval Γ) xs:=rfl
theorem AN(xs:List AV):[]++xs=xs:=rfl
theorem AL(x:AV)(xs ys:List AV):(x::xs)++ys=x::(xs++ys):=rfl
def BL(xs:List AV):AV→AR|.fn g first caps=>.call g (first++(xs++caps))|_=>.stuck
theorem A3(gl:Bool)(s:St)(f:X)(xs:List X):step Γ gl s (.call f xs)=BL (xs.map (s.eval Γ)) (s.eval Γ f):=by
  simp only[step,BL];cases s.eval Γ f<;>simp
theorem yG(xs:List AV)(g:FuncId)(first caps:List AV):BL xs (.fn g first caps)=.call g (first++(xs++caps)):=rfl
theorem Ic(gl:Bool)(s:St)(f:FuncId)(a b:List X):step Γ gl s (.mkf f a b)=.val (.fn f (a.map (s.eval Γ)) (b.map (s.eval Γ))) s:=rfl
theorem fU(e:List AV)(l:List (List AV))(h:AH)(cs:List AV):(St.mk e l h).push cs=⟨e,l,h++[some (0,cs)]⟩:=rfl
def En(s:St)(sz bytes:Nat)(z:List AV):AV→AV→AR
  | .int _ ln,.int _ cp=>.Al (xw s sz bytes z ln cp)
  | _,_=>.stuck
theorem Ji(gl:Bool)(s:St)(sz bytes:Nat)(z:List AV)(l c:X):step Γ gl s (.mks sz bytes z l c)=En s sz bytes z (s.eval Γ l) (s.eval Γ c):=by
  simp only[step];unfold En;rfl
theorem K1(s:St)(sz bytes:Nat)(z:List AV)(k k':IntKind){n:Nat}(h1:n*(bytes+sz+1)≤aX)(h2:z.all bk=true):
    En s sz bytes z (.int k (n:Int)) (.int k' (n:Int))=.val (.gs s.heap.length 0 0 n n sz true) (s.push (List.replicate n z).flatten):=by
  simp[En,xw,h1,h2,AR.Al]
def mq(s:St)(n:Nat)(a:AV):Option (List AV)→AR
  | some cs=>if cs.length=n then .AG (s.store a cs)else .stuck
  | none=>.stuck
theorem zh(gl:Bool)(s:St)(n:Nat)(a v:X):step Γ gl s (.store n a v)=mq s n (s.eval Γ a) (cellsOf (s.eval Γ v)):=by
  simp only[step,mq];cases cellsOf (s.eval Γ v)<;>rfl
theorem Wb(s:St)(n:Nat)(a:AV)(cs:List AV)(h:cs.length=n):mq s n a (some cs)=.AG (s.store a cs):=by simp[mq,h]
theorem Sm(s:St)(a x:AV):mq s 1 a (some [x])=.AG (s.store a [x]):=rfl
theorem MU(k:IntKind)(n:Int):cellsOf (.int k n)=some [.int k n]:=rfl
theorem Um(b:Bool):cellsOf (.bool b)=some [.bool b]:=rfl
theorem Rw(b:ByteArray):cellsOf (.str b)=some [.str b]:=rfl
theorem OO(cs:List AV):cellsOf (.agg cs)=some cs:=rfl
theorem F7(β:Bool)(sz:Nat)(ex:Bool)(xs:List (List AV)):cellsOf (.vs β sz ex xs)=some [.vs β sz ex xs]:=rfl
theorem JF(b g off len cap sz:Nat)(ex:Bool):cellsOf (.gs b g off len cap sz ex)=some [.gs b g off len cap sz ex]:=rfl
theorem G5:cellsOf .nilp=some [.nilp]:=rfl
theorem FV:cellsOf .nils=some [.nils]:=rfl
theorem bC(h:AH)(x:Nat×List AV):bA (h++[some x]) h.length=some x:=by simp[bA]
theorem kT{e:List AV}{l:List (List AV)}{h:AH}{cs vs:List AV}{off:Nat}(h1:off+vs.length≤cs.length)(h2:vs.all bk=true):
    (St.mk e l (h++[some (0,cs)])).store (.gp h.length 0 off) vs=some ⟨e,l,h++[some (0,over cs off vs)]⟩:=by
  simp only[St.store,bC,Option.bind_some,if_true,if_pos h1,h2]
  simp
theorem xO{e:List AV}{l:List (List AV)}{h:AH}{cs:List AV}{off n:Nat}:(St.mk e l (h++[some (0,cs)])).cells (.gp h.length 0 off) n=sub cs off n:=by
  simp only[St.cells,bC,Option.bind_some,if_true]
theorem fo{b g off len cap sz:Nat}{ex:Bool}{k:Nat}(hk:k<len):cm sz (.gs b g off len cap sz ex) (k:Int)=some (.gp b g (off+k*sz)):=by
  have:((k:Int)<(len:Int)):=by omega
  simp[cm,this]
def B5(gl:Bool)(s:St):Option (List AV)→AR
  | some cs=>if gl=true then (if cs.all bk then .val (.gp s.heap.length 0 0) (s.push cs)else .stuck)else .val (.lp s.loc.length 0) { s with loc:=s.loc++[cs] }
  | none=>.stuck
theorem HP(gl:Bool)(s:St)(x:X):step Γ gl s (.box x)=B5 gl s (cellsOf (s.eval Γ x)):=by
  simp only[step,B5];cases cellsOf (s.eval Γ x)<;>rfl
theorem Bn(s:St)(cs:List AV)(h:cs.all bk=true):B5 true s (some cs)=.val (.gp s.heap.length 0 0) (s.push cs):=by simp[B5,h]
theorem IN(e:List AV)(l:List (List AV))(h:AH)(cs:List AV):B5 false ⟨e,l,h⟩ (some cs)=.val (.lp l.length 0) ⟨e,l++[cs],h⟩:=rfl
def uC(gl:Bool)(s:St)(z:List AV):AR:=if gl=true then (if z.all bk then .val (.gp s.heap.length 0 0) (s.push z)else .stuck)else .val (.lp s.loc.length 0) { s with loc:=s.loc++[z] }
theorem zH(gl:Bool)(s:St)(z:List AV):step Γ gl s (.alloc z)=uC gl s z:=rfl
theorem oU(s:St)(z:List AV)(h:z.all bk=true):uC true s z=.val (.gp s.heap.length 0 0) (s.push z):=by simp[uC,h]
theorem ze(e:List AV)(l:List (List AV))(h:AH)(z:List AV):uC false ⟨e,l,h⟩ z=.val (.lp l.length 0) ⟨e,l++[z],h⟩:=rfl
theorem LX(a:Nat)(gl:Gl)(d:Nat)(g:Option (Nat×Bool))(i:I):iM (a::gl) ⟨some d,g,i⟩=(d == a || iM gl ⟨some d,g,i⟩):=by simp only[iM,O.dst,List.contains_cons]
theorem GS(f:FuncId)(a b:List AV):cellsOf (.fn f a b)=some [.fn f a b]:=rfl
theorem MF(b:Bool):bX (.bool b)=true:=rfl
theorem Oc(k:IntKind)(n:Int):bX (.int k n)=true:=rfl
theorem Si(b:ByteArray):bX (.str b)=true:=rfl
theorem Hw:bX .nilp=true:=rfl
theorem GX:bX .nils=true:=rfl
theorem G8:bX .nilf=true:=rfl
theorem G3(b g off:Nat):bX (.gp b g off)=true:=rfl
theorem Ha(β:Bool)(cs:List AV):bX (.ip β cs)=true:=rfl
theorem GM(b g off len cap sz:Nat)(ex:Bool):bX (.gs b g off len cap sz ex)=true:=rfl
theorem Jx(β:Bool)(sz:Nat)(ex:Bool)(xs:List (List AV)):bX (.vs β sz ex xs)=true:=rfl
theorem Na(cs:List AV):bX (.agg cs)=cs.all bk:=rfl
theorem Ru(f:FuncId)(a b:List AV):bX (.fn f a b)=(a.all cB && b.all cB):=rfl
theorem Ev(b:Bool):bk (.bool b)=true:=rfl
theorem Ds(k:IntKind)(n:Int):bk (.int k n)=true:=rfl
theorem D0(b:ByteArray):bk (.str b)=true:=rfl
theorem JG:bk .nilp=true:=rfl
theorem I9:bk .nils=true:=rfl
theorem Hg(b g off:Nat):bk (.gp b g off)=true:=rfl
theorem IE(β:Bool)(cs:List AV):bk (.ip β cs)=true:=rfl
theorem Iw(b g off len cap sz:Nat)(ex:Bool):bk (.gs b g off len cap sz ex)=true:=rfl
theorem FK(β:Bool)(sz:Nat)(ex:Bool)(xs:List (List AV)):bk (.vs β sz ex xs)=true:=rfl
theorem Gs(b g off:Nat):cB (.gp b g off)=true:=rfl
theorem Sp(k:IntKind)(n:Int):cB (.int k n)=true:=rfl
theorem Jb(β:Bool)(cs:List AV):cB (.ip β cs)=true:=rfl
theorem Ie(p:AV→Bool):List.all [] p=true:=rfl
theorem Iu(p:AV→Bool)(x:AV)(xs:List AV):List.all (x::xs) p=(p x && List.all xs p):=rfl
theorem T.drop{f:FuncId}{args:List AV}{h:AH}{Q K:AV→AH→Prop}(t:T P Γ f args h Q)(hq:∀v h',Q v h'→∃new,h'=h++new∧Gu h.length v∧K v h):T P Γ f args h K:=by
  refine t.freeze fun v h' q=>?_
  obtain⟨new,rfl,h1,h2⟩:=hq v h' q
  exact⟨h,new,v,rfl,rfl,fun b g cs hb=>.inl hb,.same v h1,h2⟩
def oI:List O→Nat→Option O
  | [],_=>none
  | o::_,0=>some o
  | _::os,n+1=>oI os n
theorem Is:∀(os:List O) (j:Nat),os[j]? = oI os j
  | [],_=>by simp[oI]
  | o::os,0=>by simp[oI]
  | o::os,n+1=>by simpa[oI]using Is os n
def AS(P:Program)(Γ:bG)(gl:Gl)(os:List O)(K:St→Prop)(s:St):Option O→Prop
  | some o=>yp P Γ K o.dst s (guardOf os s o.gd) (step Γ (iM gl o) s o.op)
  | none=>K s
def A5(s:St)(K:St→Prop)(s':St):Prop:=Mem s s'∧K s'
theorem TP(o:O)(os:List O):oI (o::os) 0=some o:=rfl
theorem NS(o:O)(os:List O)(n:Nat):oI (o::os) (n+1)=oI os n:=rfl
theorem GL(gl:Gl)(os:List O)(K:St→Prop)(s:St)(o:O):AS P Γ gl os K s (some o)=yp P Γ K o.dst s (guardOf os s o.gd) (step Γ (iM gl o) s o.op):=rfl
theorem jY(gl:Gl)(os:List O)(i:Nat)(K:St→Prop)(s:St):pb P Γ gl os i K s=AS P Γ gl os K s (oI os i):=by
  unfold pb
  rw[Is]
  cases oI os i with
  | none=>rfl
  | some o=>
    simp only[AS,yp]
    cases guardOf os s o.gd with
    | none=>rfl
    | some t=>cases step Γ (iM gl o) s o.op<;>rfl
theorem Up(gl:Gl)(os:List O)(K:St→Prop)(s:St):bV P Γ gl os K 0 .done s=K s:=rfl
theorem YL(gl:Gl)(os:List O)(K:St→Prop)(n i:Nat)(d:D)(s:St):bV P Γ gl os K (n+1) (.q i d) s=AS P Γ gl os (bV P Γ gl os K n d) s (oI os i):=by
  rw[←jY];rfl
theorem Md(gl:Gl)(os:List O)(K:St→Prop)(n i:Nat)(d:D)(s:St):bV P Γ gl os K (n+1) (.all [(i,d)]) s=AS P Γ gl os (A5 s (bV P Γ gl os K n d)) s (oI os i):=by
  rw[←jY];simp only[bV,qj,and_true];rfl
theorem TW(gl:Gl)(os:List O)(K:St→Prop)(n i:Nat)(d:D)(p:Nat×D)(ds:List (Nat×D))(s:St):bV P Γ gl os K (n+1) (.all ((i,d)::p::ds)) s =
    (AS P Γ gl os (A5 s (bV P Γ gl os K n d)) s (oI os i)∧bV P Γ gl os K (n+1) (.all (p::ds)) s):=by
  rw[←jY];simp only[bV,qj];rfl
def DP(rs:List Nat)(s:St)(K:St→Prop)(s':St):Prop:=ju rs s s'∧K s'
theorem JC(gl:Gl)(os:List O)(K:St→Prop)(n i:Nat)(rs:List Nat)(d:D)(s:St):bV P Γ gl os K (n+1) (.mix [(i,some rs,d)]) s=AS P Γ gl os (DP rs s (bV P Γ gl os K n d)) s (oI os i):=by
  rw[←jY];simp only[bV,lI,and_true];rfl
theorem HK(gl:Gl)(os:List O)(K:St→Prop)(n i:Nat)(d:D)(s:St):bV P Γ gl os K (n+1) (.mix [(i,none,d)]) s=AS P Γ gl os (A5 s (bV P Γ gl os K n d)) s (oI os i):=by
  rw[←jY];simp only[bV,lI,and_true];rfl
theorem FY(gl:Gl)(os:List O)(K:St→Prop)(n i:Nat)(rs:List Nat)(d:D)(p:Nat×Option (List Nat)×D)(ds:List (Nat×Option (List Nat)×D))(s:St):bV P Γ gl os K (n+1) (.mix ((i,some rs,d)::p::ds)) s =
    (AS P Γ gl os (DP rs s (bV P Γ gl os K n d)) s (oI os i)∧bV P Γ gl os K (n+1) (.mix (p::ds)) s):=by
  rw[←jY];simp only[bV,lI];rfl
theorem IF(gl:Gl)(os:List O)(K:St→Prop)(n i:Nat)(d:D)(p:Nat×Option (List Nat)×D)(ds:List (Nat×Option (List Nat)×D))(s:St):bV P Γ gl os K (n+1) (.mix ((i,none,d)::p::ds)) s =
    (AS P Γ gl os (A5 s (bV P Γ gl os K n d)) s (oI os i)∧bV P Γ gl os K (n+1) (.mix (p::ds)) s):=by
  rw[←jY];simp only[bV,lI];rfl
theorem PJ(gl:Gl)(os:List O)(K:St→Prop)(n i:Nat)(rs:List Nat)(d:D)(s:St):bV P Γ gl os K (n+1) (.st i rs d) s=AS P Γ gl os (DP rs s (bV P Γ gl os K n d)) s (oI os i):=by
  rw[←jY];rfl
theorem XJ(rs:List Nat)(s:St)(K:St→Prop)(s':St):DP rs s K s'=(ju rs s s'∧K s'):=rfl
def CJ:AV→Bool|.lp ..=>true|.ip ..=>true|_=>false
theorem ct{rs:List Nat}{s s':St}(m:Mem s s'):ju rs s s':=fun r _ n cs h=>rG m h
theorem Ef{rs:List Nat}{e e':List AV}{L L':List (List AV)}{h h':AH}(hb:(rs.all fun r=>CJ (e.getD r .any))=true):ju rs ⟨e,L,h⟩ ⟨e',L++L',h'⟩:=by
  intro r hr n cs h5
  have hb:=List.all_eq_true.1 hb r hr
  simp only at h5 ⊢
  generalize e.getD r .any=p at h5 hb ⊢
  cases p with
  | lp i off=>
    simp only[St.cells]at h5 ⊢
    cases hx:L[i]? with
    | none=>simp[hx]at h5
    | some l=>rw[List.getElem?_append_left (aK hx),hx];simpa[hx]using h5
  | ip β xs=>exact h5
  | _=>simp[CJ]at hb
theorem gA{rs:List Nat}{e e':List AV}{L:List (List AV)}{h h':AH}(hb:(rs.all fun r=>CJ (e.getD r .any))=true):ju rs ⟨e,L,h⟩ ⟨e',L,h'⟩:=by
  have:=Ef (e':=e') (L:=L) (L':=[]) (h:=h) (h':=h') hb
  rwa[List.append_nil]at this
theorem Yh(s:St)(K:St→Prop)(s':St):A5 s K s'=(Mem s s'∧K s'):=rfl
theorem XI(e e':List AV)(l:List (List AV))(h:AH):Mem ⟨e,l,h⟩ ⟨e',l,h⟩=True:=eq_true (Mem.env _ _)
theorem X5(e e':List AV)(l:List (List AV))(h n:AH):Mem ⟨e,l,h⟩ ⟨e',l,h++n⟩=True:=eq_true (Mem.heap ⟨e,l,h⟩ _ _)
theorem XG(e e':List AV)(l l':List (List AV))(h:AH):Mem ⟨e,l,h⟩ ⟨e',l++l',h⟩=True:=eq_true (Mem.loc ⟨e,l,h⟩ _ _)
theorem Sz(rs:List Nat)(e e':List AV)(l:List (List AV))(h:AH):ju rs ⟨e,l,h⟩ ⟨e',l,h⟩=True:=eq_true (ct (Mem.env _ _))
theorem Oj(rs:List Nat)(e e':List AV)(l:List (List AV))(h n:AH):ju rs ⟨e,l,h⟩ ⟨e',l,h++n⟩=True:=eq_true (ct (Mem.heap ⟨e,l,h⟩ _ _))
theorem BY{xs:List (List AV)}{sz:Nat}(h:∀l∈xs,l.length=sz):xs.flatten.length=xs.length*sz:=by
  induction xs with
  | nil=>simp
  | cons x xs ih=>simp[ih (fun l hl=>h l (by simp[hl])),h x (by simp),Nat.succ_mul,Nat.add_comm]
theorem A0(s:SH)(sz:Nat)(xs:List (List AV)):bX (sl s sz xs)=true:=by cases s<;>rfl
theorem zQ(s:SH)(sz:Nat)(xs:List (List AV)):bk (sl s sz xs)=true:=by cases s<;>rfl
theorem Ht(s:SH)(sz:Nat)(xs:List (List AV)):cellsOf (sl s sz xs)=some [sl s sz xs]:=by cases s<;>rfl
theorem wN{n:Nat}(h:n<9223372036854775807):IntKind.i64.wrap ((n:Int)+1)=((n+1:Nat):Int):=by
  rw[aI (by omega) (by omega)];rfl
end
theorem EO:type_of% (And.intro @MF (And.intro @Oc (And.intro @Si (And.intro @Hw (And.intro @GX (And.intro @G8 (And.intro @G3 (And.intro @Ha (And.intro @GM (And.intro @Jx (And.intro @Na (And.intro @Ru (And.intro @Ev (And.intro @Ds (And.intro @D0 (And.intro @JG (And.intro @I9 (And.intro @Hg (And.intro @IE (And.intro @Iw (And.intro @FK (And.intro @Gs (And.intro @Sp (And.intro @Jb (And.intro @Ie (And.intro @Iu (And.intro @A0 (And.intro @zQ (And.intro @Bool.and_true (@Bool.true_and)))))))))))))))))))))))))))))):=And.intro @MF (And.intro @Oc (And.intro @Si (And.intro @Hw (And.intro @GX (And.intro @G8 (And.intro @G3 (And.intro @Ha (And.intro @GM (And.intro @Jx (And.intro @Na (And.intro @Ru (And.intro @Ev (And.intro @Ds (And.intro @D0 (And.intro @JG (And.intro @I9 (And.intro @Hg (And.intro @IE (And.intro @Iw (And.intro @FK (And.intro @Gs (And.intro @Sp (And.intro @Jb (And.intro @Ie (And.intro @Iu (And.intro @A0 (And.intro @zQ (And.intro @Bool.and_true (@Bool.true_and)))))))))))))))))))))))))))))
theorem EL:type_of% (And.intro @JC (And.intro @HK (And.intro @FY (And.intro @IF (And.intro @Sz (And.intro @Oj (And.intro @EU (And.intro @GN (And.intro @AN (And.intro @AL (And.intro @A3 (And.intro @yG (And.intro @Ic (And.intro @fU (And.intro @Ji (And.intro @zh (And.intro @Sm (And.intro @HP (And.intro @IN (And.intro @zH (And.intro @ze (And.intro @LX (And.intro @GS (And.intro @Ht (And.intro @Bool.true_or (And.intro @Bool.false_or (And.intro @MU (And.intro @Um (And.intro @Rw (And.intro @OO (And.intro @F7 (And.intro @JF (And.intro @G5 (And.intro @FV (And.intro @Up (And.intro @YL (And.intro @Md (And.intro @TW (And.intro @PJ (And.intro @XJ (And.intro @GL (And.intro @TP (And.intro @NS (And.intro @Yh (And.intro @XI (And.intro @X5 (And.intro @XG (And.intro @true_and (@and_true))))))))))))))))))))))))))))))))))))))))))))))))):=And.intro @JC (And.intro @HK (And.intro @FY (And.intro @IF (And.intro @Sz (And.intro @Oj (And.intro @EU (And.intro @GN (And.intro @AN (And.intro @AL (And.intro @A3 (And.intro @yG (And.intro @Ic (And.intro @fU (And.intro @Ji (And.intro @zh (And.intro @Sm (And.intro @HP (And.intro @IN (And.intro @zH (And.intro @ze (And.intro @LX (And.intro @GS (And.intro @Ht (And.intro @Bool.true_or (And.intro @Bool.false_or (And.intro @MU (And.intro @Um (And.intro @Rw (And.intro @OO (And.intro @F7 (And.intro @JF (And.intro @G5 (And.intro @FV (And.intro @Up (And.intro @YL (And.intro @Md (And.intro @TW (And.intro @PJ (And.intro @XJ (And.intro @GL (And.intro @TP (And.intro @NS (And.intro @Yh (And.intro @XI (And.intro @X5 (And.intro @XG (And.intro @true_and (@and_true))))))))))))))))))))))))))))))))))))))))))))))))
end Go.AM
namespace Go.AM
section
variable {P:Program} {Θ:jL} {Γ:bG}
def UB(agg:Bool)(x:List AV):AV:=if agg=true then .agg x else x.getD 0 .any
def KD(agg:Bool)(sz:Nat)(x:List AV):Prop:=x.length=sz∧(agg=true∨sz=1)
theorem Ez{agg:Bool}{sz:Nat}{x:List AV}(h:KD agg sz x):(sub x 0 sz).bind (fy agg)=some (UB agg x):=by
  obtain⟨h1,h2⟩:=h
  simp only[sub,Nat.zero_add,List.drop_zero]
  rw[if_pos (by omega),List.take_of_length_le (by omega)]
  rcases h2 with rfl|rfl
  · rfl
  · cases agg
    · match x,h1 with
      | [a],_=>rfl
    · rfl
def pY(sz:Nat)(agg:Bool):C:=.seq (.reg [⟨(some 4),none,.mov (.c (.int .i64 0))⟩]) (.seq (.seq (.reg [⟨(some 6),none,.mov (.t 0)⟩,
  ⟨(some 7),none,.len false (.t 6)⟩,
  ⟨(some 8),none,.mov (.c (.int .i64 0))⟩]) (.block 0 (.loop (.seq (.reg [⟨(some 9),none,.bin .lss (.num) (.t 8) (.t 7)⟩]) (.seq (.cond (.t 9) (.skip) (.exit 0)) (.seq (.block 1 (.seq (.reg [⟨(some 10),none,.mov (.t 8)⟩,
  ⟨(some 5),none,.mov (.t 10)⟩]) (.seq (.reg [⟨(some 11),none,.mov (.t 1)⟩,
  ⟨(some 12),none,.mov (.t 0)⟩,
  ⟨(some 13),none,.mov (.t 5)⟩,
  ⟨(some 14),none,.idxs sz (.t 12) (.t 13)⟩,
  ⟨(some 15),none,.load sz agg (.t 14)⟩,
  ⟨(some 16),none,.call (.t 11) [.t 15]⟩]) (.cond (.t 16) (.seq (.reg [⟨(some 17),none,.mov (.t 5)⟩,
  ⟨(some 4),none,.mov (.t 17)⟩]) (.ret)) (.skip))))) (.reg [⟨(some 18),none,.bin .add (.num) (.t 8) (.c (.int .i64 1))⟩,
  ⟨(some 8),none,.mov (.t 18)⟩]))))))) (.seq (.reg [⟨(some 4),none,.mov (.c (.int .i64 (-1)))⟩]) (.ret)))
abbrev vA(P:Program)(Θ:jL)(Γ:bG)(f:FuncId)(c:C)(rs:List RS)(us:List AV):Prop:=
  ∀{a0 a1:AV} {h:AH} {K:AV→AH→Prop},TC P Θ Γ c (aW rs K) ⟨a0::a1::us,[],h⟩→T P Γ f [a0,a1] h K
end
end Go.AM
