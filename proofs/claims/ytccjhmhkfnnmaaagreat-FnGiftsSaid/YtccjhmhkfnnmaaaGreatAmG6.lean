import Derived.Test.YtccjhmhkfnnmaaaGreatAmG5
import Derived.Laws.StructEq
set_option linter.unusedVariables false
set_option linter.unusedSimpArgs false
namespace Go.AM
section
variable {P:Program}
def rm:TK→Bool|.int _|.bool|.str=>true|_=>false
def lJ(P:Program):List Field→Nat→List TK→Bool
  | [],_,[]=>true
  | f::fs,o,k::ks=>f.name != "_" && f.offset == o && (match P.underlying f.type with|some d=>nt d == k && rm k|none=>false) && lJ P fs (o+1) ks
  | _,_,_=>false
def Bj(P:Program)(t:TypeId)(ks:List TK):Bool:=
  !P.eqGuardType P.depth t && !P.stoodInHeld t && match P.underlying t with|some (.struct fs)=>lJ P fs.toList 0 ks|_=>false
theorem xI{t:TypeId}{d:TypeDesc}(hu:P.underlying t=some d)(hb:rm (nt d)=true){xs:Array Value}{off:Nat}{v:Value}(hx:xs[off]? = some v)(w:World):(part t xs off).run P w=.ok v w:=by
  cases d<;>simp[nt,rm]at hb<;>simp[part,isAgg,run_underlying hu,hx]
theorem s8(d:Nat){w:World}{ρ:gh}{ls:List Nat}{xs ys:Array Value}:∀(fs:List Field) (o:Nat) (ks:List TK) (as bs:List AV) (r:Bool),lJ P fs o ks=true→
    (∀(i:Nat) (x:AV),as[i]? = some x→∃y,xs[o+i]? = some y∧RV ρ ls x y)→(∀(i:Nat) (x:AV),bs[i]? = some x→∃y,ys[o+i]? = some y∧RV ρ ls x y)→sW ks as bs=some r→
    (Op.eqFields (d+1) xs ys fs).run P w=.ok r w
  | [],o,[],as,bs,r,hf,ha,hb,h=>by
    match as,bs,h with
    | [],[],h=>simp[sW]at h;subst h;simp[Op.eqFields]
  | f::fs,o,k::ks,as,bs,r,hf,ha,hb,h=>by
    match as,bs,h with
    | a::as,b::bs,h=>
      simp only[sW]at h
      obtain⟨e,h1,h2⟩:=jJ h
      rw[Option.map_eq_some_iff]at h2
      obtain⟨e',h2,rfl⟩:=h2
      simp only[lJ,Bool.and_eq_true,bne_iff_ne,ne_eq,beq_iff_eq]at hf
      obtain⟨⟨⟨f1,f2⟩,f3⟩,f4⟩:=hf
      obtain⟨y1,p1,r1⟩:=ha 0 a rfl
      obtain⟨y2,p2,r2⟩:=hb 0 b rfl
      have ih:=s8 d (w:=w) fs (o+1) ks as bs e' f4 (fun i x hx=>by have:=ha (i+1) x (by simpa using hx);rwa[show o+(i+1)=o+1+i by omega]at this)
        (fun i x hx=>by have:=hb (i+1) x (by simpa using hx);rwa[show o+(i+1)=o+1+i by omega]at this) h2
      split at f3
      · rename_i d' hu
        simp only[Bool.and_eq_true,beq_iff_eq]at f3
        obtain⟨f3,f5⟩:=f3
        have f6:rm (nt d')=true:=by rw[f3];exact f5
        have q1:=xI hu f6 (xs:=xs) (off:=o) (v:=y1) (by simpa using p1) w
        have q2:=xI hu f6 (xs:=ys) (off:=o) (v:=y2) (by simpa using p2) w
        have q3:(Op.equalIn (d+1) f.type y1 y2).run P w=.ok e w:=by
          rw[←f3]at h1
          cases d'<;>simp[nt,rm]at f6<;>simp only[nt]at h1<;>unfold AZ at h1<;>(split at h1)<;>(try (cases h1;done))<;>rename_i h3<;>(try (cases h3;done))
          all_goals skip
          · injection h1 with h1;cases r1;cases r2;subst h1
            exact run_equalIn_bool' w d f.type _ _ hu
          · split at h1
            · rename_i hk
              injection h1 with h1;cases r1;cases r2;subst h1;subst hk
              exact run_equalIn_int w d f.type _ _ _ _ hu
            · cases h1
          · injection h1 with h1;cases r1;cases r2;subst h1
            exact run_equalIn_string w d f.type _ _ hu
        simp only[Op.eqFields,f1,ne_eq,not_false_eq_true,if_true,f2,Sem.run_bind,q1,q2,q3,Result.andThen_ok]
        cases e
        · simp
        · simpa using ih
      · cases f3
  | [],_,_::_,_,_,_,hf,_,_,_=>by simp[lJ]at hf
  | _::_,_,[],_,_,_,hf,_,_,_=>by simp[lJ]at hf
theorem De{t:TypeId}{ks:List TK}(h:Bj P t ks=true):tM P t ks:=by
  simp only[Bj,Bool.and_eq_true,Bool.not_eq_true']at h
  obtain⟨⟨h1,h2⟩,h3⟩:=h
  refine⟨h1,fun w ρ ls as bs xs ys r ra rb ha=>?_⟩
  cases hu:P.underlying t with
  | none=>simp[hu]at h3
  | some d=>
    cases d<;>simp[hu]at h3
    rename_i fs
    have hfs:P.fieldsOf t=fs:=by simp[Program.fieldsOf,hu]
    unfold Op.equal
    have look:∀{as:List AV} {xs:Array Value},hH ρ ls as xs.toList→∀(i:Nat) (x:AV),as[i]? = some x→∃y,xs[0+i]? = some y∧RV ρ ls x y:=by
      intro as xs ra i x hx
      have hl:=aG hx
      have h:=ra.2 i x hx
      have hl':i<xs.toList.length:=by rw[←ra.1];exact hl
      have hl'':i<xs.size:=by simpa using hl'
      refine⟨xs[i],by simp[hl''],?_⟩
      simpa[List.getD_eq_getElem?_getD,hl'']using h
    rw[show Op.maxDepth=(Op.maxDepth-1)+1 from rfl,run_equalIn_struct w _ t xs ys (by rw[hfs];exact hu) h2,hfs]
    rw[show Op.maxDepth-1=(Op.maxDepth-2)+1 from rfl]
    exact s8 _ fs.toList 0 ks as bs r h3 (look ra) (look rb) ha
def GZ(L:List (Nat×TI)):mQ:=fun t=>(L.find? fun p=>p.1 == t).map (·.2)
theorem Ht{L:List (Nat×TI)}(h1:(L.map fun p=>NK P p.1)=L.map fun p=>some (p.2.kd,p.2.size,p.2.bytes,p.2.zero,true))
    (h2:(L.all fun p=>match p.2.plainEq with|none=>true|some ks=>Bj P p.1 ks)=true):eO P (GZ L):=by
  intro t ti h
  unfold GZ at h
  rw[Option.map_eq_some_iff]at h
  obtain⟨p,hp,rfl⟩:=h
  have hm:=List.mem_of_find?_eq_some hp
  have ht:p.1=t:=by simpa using List.find?_some hp
  subst ht
  refine⟨List.map_inj_left.1 h1 p hm,fun ks hk=>?_⟩
  have:=List.all_eq_true.1 h2 p hm
  simp only[hk]at this
  exact De this
def aL(f:Func):Code:=match f.body with|some c=>c|none=>.skip
abbrev u:AV:=.tup []
end
end Go.AM
namespace Go.AM
section
variable {P:Program} {Θ:mQ} {Γ:cj}
theorem GY(a:AV)(l:List AV)(d:AV):(a::l).getD 0 d=a:=rfl
theorem Hp(a b:AV)(l:List AV)(d:AV):(a::b::l).getD 1 d=b:=rfl
theorem Ft(a b c:AV)(l:List AV)(d:AV):(a::b::c::l).getD 2 d=c:=rfl
theorem HC(a b c e:AV)(l:List AV)(d:AV):(a::b::c::e::l).getD 3 d=e:=rfl
theorem GF(a0 a1 a2 a3:AV)(l:List AV)(n:Nat)(d:AV):(a0::a1::a2::a3::l).getD (n+4) d=l.getD n d:=rfl
theorem Ef(a0 a1 a2 a3 a4 a5 a6 a7 a8 a9 b0 b1 b2 b3 b4 b5:AV)(l:List AV)(n:Nat)(d:AV):
    (a0::a1::a2::a3::a4::a5::a6::a7::a8::a9::b0::b1::b2::b3::b4::b5::l).getD (n+16) d=l.getD n d:=rfl
theorem Hm(a:AV)(l:List AV)(v:AV):(a::l).set 0 v=v::l:=rfl
theorem FM(a b:AV)(l:List AV)(v:AV):(a::b::l).set 1 v=a::v::l:=rfl
theorem FV(a b c:AV)(l:List AV)(v:AV):(a::b::c::l).set 2 v=a::b::v::l:=rfl
theorem Il(a b c e:AV)(l:List AV)(v:AV):(a::b::c::e::l).set 3 v=a::b::c::v::l:=rfl
theorem F9(a0 a1 a2 a3:AV)(l:List AV)(n:Nat)(v:AV):(a0::a1::a2::a3::l).set (n+4) v=a0::a1::a2::a3::l.set n v:=rfl
theorem DT(a0 a1 a2 a3 a4 a5 a6 a7 a8 a9 b0 b1 b2 b3 b4 b5:AV)(l:List AV)(n:Nat)(v:AV):
    (a0::a1::a2::a3::a4::a5::a6::a7::a8::a9::b0::b1::b2::b3::b4::b5::l).set (n+16) v=a0::a1::a2::a3::a4::a5::a6::a7::a8::a9::b0::b1::b2::b3::b4::b5::l.set n v:=rfl
theorem Sb(e:List AV)(l:List (List AV))(h:AH)(n:Nat):(St.mk e l h).eval Γ (.t n)=e.getD n .any:=rfl
theorem Qe(s:St)(v:AV):s.eval Γ (.c v)=v:=rfl
theorem Ns(e:List AV)(l:List (List AV))(h:AH)(d:Nat)(v:AV):(St.mk e l h).put (some d) v=⟨e.set d v,l,h⟩:=rfl
theorem LR(s:St)(v:AV):s.put none v=s:=rfl
theorem Rq:∀(gl:Gl) (g:Option (Nat×Bool)) (i:I),kV gl ⟨none,g,i⟩=false:=fun _ _ _=>rfl
theorem SF(d:Nat)(g:Option (Nat×Bool))(i:I):kV [] ⟨some d,g,i⟩=false:=rfl
def CX(P:Program)(Γ:cj)(K:St→Prop)(dst:Option Nat)(s:St)(g:Option Bool)(r:AR):Prop:=
  match g with
  | none=>False
  | some t=>br t (match r with|.val v s'=>K (s'.put dst v)|.call f args=>ah P Γ f args s fun v s'=>K (s'.put dst v)|.stuck=>False) (K (s.put dst (.tup [])))
theorem Xe(K:St→Prop)(d:Option Nat)(s:St)(v:AV)(s':St):CX P Γ K d s (some true) (.val v s')=K (s'.put d v):=propext (AT _ _)
theorem WE(K:St→Prop)(d:Option Nat)(s:St)(f:FuncId)(args:List AV):CX P Γ K d s (some true) (.call f args)=ah P Γ f args s fun v s'=>K (s'.put d v):=propext (AT _ _)
theorem Xf(K:St→Prop)(d:Option Nat)(s:St)(r:AR):CX P Γ K d s (some false) r=K (s.put d (.tup [])):=propext (B5 _ _)
theorem mb{K:St→Prop}{d:Option Nat}{s:St}{t:Bool}{r:AR}(h1:t=true→CX P Γ K d s (some true) r)(h2:t=false→CX P Γ K d s (some false) r):CX P Γ K d s (some t) r:=by
  cases t
  · exact h2 rfl
  · exact h1 rfl
theorem WG(gl:Gl)(os:List O)(K:St→Prop)(s:St):fh P Γ gl os [] K s=K s:=rfl
theorem We(gl:Gl)(os:List O)(o:O)(r:List O)(K:St→Prop)(s:St):fh P Γ gl os (o::r) K s=CX P Γ (fh P Γ gl os r K) o.dst s (guardOf os s o.gd) (step Γ (kV gl o) s o.op):=by
  simp only[fh,CX]
  cases guardOf os s o.gd with
  | none=>rfl
  | some t=>cases step Γ (kV gl o) s o.op<;>rfl
theorem PH(os:List O)(s:St):guardOf os s none=some true:=rfl
def vP:List O→Nat→Option Nat
  | [],_=>none
  | o::_,0=>o.dst
  | _::os,n+1=>vP os n
theorem Du:∀(os:List O) (j:Nat),(os[j]?).bind (·.dst)=vP os j
  | [],_=>by simp[vP]
  | o::os,0=>by simp[vP]
  | o::os,n+1=>by simpa[vP]using Du os n
def CY(w:Bool):AV→Option Bool|.bool b=>some (b == w)|.any|.opq _=>none|_=>some false
def Wa(e:List AV)(w:Bool):Option Nat→Option Bool|none=>some false|some d=>CY w (e.getD d (.tup []))
theorem SQ(d:Option Nat)(g:Option (Nat×Bool))(i:I)(os:List O):vP (⟨d,g,i⟩::os) 0=d:=rfl
theorem O0(o:O)(os:List O)(n:Nat):vP (o::os) (n+1)=vP os n:=rfl
theorem Qf(os:List O)(e:List AV)(l:List (List AV))(h:AH)(j:Nat)(w:Bool):guardOf os ⟨e,l,h⟩ (some (j,w))=Wa e w (vP os j):=by
  simp only[guardOf,Du,Wa]
  cases vP os j with
  | none=>rfl
  | some d=>
    simp only[List.getD_eq_getElem?_getD]
    cases e[d]? with
    | none=>rfl
    | some v=>cases v<;>rfl
theorem RJ(e:List AV)(w:Bool)(d:Nat):Wa e w (some d)=CY w (e.getD d (.tup [])):=rfl
theorem QB(b:Bool):CY true (.bool b)=some b:=by simp[CY]
theorem UJ(b:Bool):CY false (.bool b)=some (!b):=by simp[CY]
theorem Qd(w:Bool):CY w (.tup [])=some false:=rfl
theorem ny{K:St→Prop}{d:Option Nat}{s:St}{t:Bool}{r:AR}(h1:t=true→CX P Γ K d s (some false) r)(h2:t=false→CX P Γ K d s (some true) r):CX P Γ K d s (some (!t)) r:=by
  cases t
  · exact h2 rfl
  · exact h1 rfl
def BL(A B:St→Prop)(s:St):AV→Prop
  | .bool t=>br t (A s) (B s)
  | _=>False
theorem Wi(A B:St→Prop)(s:St):BL A B s (.bool true)=A s:=propext (AT _ _)
theorem WH(A B:St→Prop)(s:St):BL A B s (.bool false)=B s:=propext (B5 _ _)
theorem bI{A B:St→Prop}{s:St}{t:Bool}(h1:t=true→A s)(h2:t=false→B s):BL A B s (.bool t):=⟨h1,h2⟩
theorem GR(gl:Gl)(Q:AE→St→Prop)(s:St):aw P Θ Γ gl .skip Q s=Q .normal s:=rfl
theorem Nl(gl:Gl)(os:List O)(Q:AE→St→Prop)(s:St):aw P Θ Γ gl (.reg os) Q s=fh P Γ gl os os (Q .normal) s:=rfl
theorem KZ(gl:Gl)(a b:C)(Q:AE→St→Prop)(s:St):aw P Θ Γ gl (.seq a b) Q s=aw P Θ Γ gl a (iz (aw P Θ Γ gl b Q) Q) s:=rfl
theorem GH(gl:Gl)(c:X)(a b:C)(Q:AE→St→Prop)(s:St):aw P Θ Γ gl (.cond c a b) Q s=BL (aw P Θ Γ gl a Q) (aw P Θ Γ gl b Q) s (s.eval Γ c):=by
  simp only[aw,BL];cases s.eval Γ c<;>rfl
theorem D5(gl:Gl)(id:Nat)(c:C)(Q:AE→St→Prop)(s:St):aw P Θ Γ gl (.block id c) Q s=aw P Θ Γ gl c (jq id Q) s:=rfl
theorem GA(gl:Gl)(c:C)(Q:AE→St→Prop)(s:St):aw P Θ Γ gl (.loop c) Q s=TC P Θ Γ (.loop c) Q s:=rfl
theorem Gk(gl:Gl)(id:Nat)(Q:AE→St→Prop)(s:St):aw P Θ Γ gl (.exit id) Q s=Q (.exit id) s:=rfl
theorem Ls(gl:Gl)(Q:AE→St→Prop)(s:St):aw P Θ Γ gl .ret Q s=Q .ret s:=rfl
theorem Ry(K:St→Prop)(Q:AE→St→Prop):iz K Q .normal=K:=rfl
theorem QL(K:St→Prop)(Q:AE→St→Prop)(id:Nat):iz K Q (.exit id)=Q (.exit id):=rfl
theorem TV(K:St→Prop)(Q:AE→St→Prop):iz K Q .ret=Q .ret:=rfl
theorem UH(id:Nat)(Q:AE→St→Prop):jq id Q .normal=Q .normal:=rfl
theorem Qr(id:Nat)(Q:AE→St→Prop):jq id Q .ret=Q .ret:=rfl
theorem TQ(id:Nat)(Q:AE→St→Prop):jq id Q (.exit id)=Q .normal:=by funext s;simp[jq]
theorem ag(id i:Nat)(Q:AE→St→Prop)(h:(i == id)=false):jq id Q (.exit i)=Q (.exit i):=by
  funext s;simp only[jq];rw[if_neg (by simpa using h)]
def kW:Nat→Nat→D→Bool
  | 0,_,.done=>true
  | n+1,i,.q j d=>i == j && kW n (i+1) d
  | _,_,_=>false
def Rs(os:List O)(af:List (List Nat)):Bool:=match sched os af os.length (List.replicate os.length false)with|some d=>kW os.length 0 d|none=>false
theorem BY(gl:Gl)(os:List O)(K:St→Prop):∀(n i:Nat) (d:D) (s:St),i+n=os.length→kW n i d=true→bH P Γ gl os K n d s=fh P Γ gl os (os.drop i) K s
  | 0,i,.done,s,hi,_=>by rw[List.drop_of_length_le (by omega)];rfl
  | n+1,i,.q j d,s,hi,h=>by
    simp only[kW,Bool.and_eq_true,beq_iff_eq]at h
    obtain⟨rfl,h⟩:=h
    have hil:i<os.length:=by omega
    rw[List.drop_eq_getElem_cons hil,We]
    simp only[bH,vl,List.getElem?_eq_getElem hil,CX]
    cases guardOf os s os[i].gd with
    | none=>rfl
    | some t=>
      have:∀s,bH P Γ gl os K n d s=fh P Γ gl os (os.drop (i+1)) K s:=fun s=>BY gl os K n (i+1) d s (by omega) h
      have e:bH P Γ gl os K n d=fh P Γ gl os (os.drop (i+1)) K:=funext this
      rw[e]
      simp only
      cases step Γ (kV gl os[i]) s os[i].op<;>rfl
  | n+1,_,.done,_,_,h=>by simp[kW]at h
  | n+1,_,.all _,_,_,h=>by simp[kW]at h
  | 0,_,.q _ _,_,_,h=>by simp[kW]at h
  | 0,_,.all _,_,_,h=>by simp[kW]at h
  | n+1,_,.st _ _ _,_,_,h=>by simp[kW]at h
  | 0,_,.st _ _ _,_,_,h=>by simp[kW]at h
theorem FD{os:List O}{af:List (List Nat)}(h:Rs os af=true)(gl:Gl)(Q:AE→St→Prop)(s:St):aw P Θ Γ gl (.regD os af) Q s=fh P Γ gl os os (Q .normal) s:=by
  unfold Rs at h
  simp only[aw]
  split at h
  · rename_i d hd
    rw[hd]
    exact BY gl os _ os.length 0 d s (by omega) h
  · cases h
theorem c9{os:List O}{af:List (List Nat)}{n:Nat}{d:D}(hn:os.length=n)(h:sched os af n (List.replicate n false)=some d)(gl:Gl)(Q:AE→St→Prop)(s:St):aw P Θ Γ gl (.regD os af) Q s=bH P Γ gl os (Q .normal) n d s:=by
  subst hn
  simp only[aw,h]
theorem rZ(tab:eO P Θ)(hm:P.follows .mixedOrders=true)(gl:Gl):∀(c:C) (Q:AE→St→Prop) (s:St),aw P Θ Γ gl c Q s→qK P Θ Γ gl c Q s:=by
  intro c
  induction c with
  | skip=>exact fun _ _ h=>h
  | reg os=>exact fun _ _ h=>h
  | regD os af=>
    intro Q s h
    simp only[aw]at h
    split at h
    · rename_i d hd
      exact AU tab hm gl (uV _ _ d s (qw _ _) hd h)
    · exact h.elim
  | seq a b iha ihb=>
    intro Q s h
    exact ll a s (fun e s he=>by cases e<;>simp only[iz]at he ⊢<;>first|exact ihb Q s he|exact he) (iha _ s h)
  | cond c a b iha ihb=>
    intro Q s h
    simp only[aw,qK]at h ⊢
    split at h
    · rename_i t ht
      simp only[ht]
      exact⟨fun ht=>iha Q s (h.1 ht),fun ht=>ihb Q s (h.2 ht)⟩
    · exact h.elim
  | block id c ih=>exact fun Q s h=>ih _ s h
  | loop c=>exact fun _ _ h=>h
  | exit id=>exact fun _ _ h=>h
  | ret=>exact fun _ _ h=>h
theorem loop(tab:eO P Θ)(hm:P.follows .mixedOrders=true)(gl:Gl){c:C}{Q:AE→St→Prop}{s:St}{α:Type}(μ:α→Nat)(st:α→St)(x:α)(hs:Le s (st x))
    (round:∀x,aw P Θ Γ gl c (iz (fun s'=>∃y,μ y<μ x∧Le s' (st y)) Q) (st x)):TC P Θ Γ (.loop c) Q s:=
  TC.le hs (Bc tab gl μ st (fun x=>rZ tab hm gl _ _ _ (round x)) x)
theorem dD(tab:eO P Θ)(hm:P.follows .mixedOrders=true)(gl:Gl){c:C}{Q:AE→St→Prop}{s:St}{α:Type}(I:α→Prop)(μ:α→Nat)(st:α→St)(x:α)(hx:I x)(hs:Le s (st x))
    (round:∀x,I x→aw P Θ Γ gl c (iz (fun s'=>∃y,I y∧μ y<μ x∧Le s' (st y)) Q) (st x)):TC P Θ Γ (.loop c) Q s:=by
  refine TC.le hs (Bc tab gl (fun y:{ y // I y }=>μ y.1) (fun y=>st y.1) (fun y=>ll _ _ ?_ (rZ tab hm gl _ _ _ (round y.1 y.2))) ⟨x,hx⟩)
  intro e s h
  cases e<;>simp only[iz]at h ⊢
  · obtain⟨y,h1,h2,h3⟩:=h
    exact⟨⟨y,h1⟩,h2,h3⟩
  · exact h
  · exact h
def FH(K:AV→AH→Prop)(h:AH):Option AV→Prop
  | some v=>c7 v=true∧K v h
  | none=>False
theorem WQ(rs:List RS)(K:AV→AH→Prop)(s:St):bF rs K .ret s=FH K s.heap (u3 s rs):=by
  simp only[bF,FH];cases u3 s rs<;>rfl
theorem WY(rs:List RS)(K:AV→AH→Prop)(s:St):bF rs K .normal s=FH K s.heap (u3 s rs):=by
  simp only[bF,FH];cases u3 s rs<;>rfl
theorem WK(K:AV→AH→Prop)(h:AH)(v:AV):FH K h (some v)=(c7 v=true∧K v h):=rfl
theorem Wp(s:St)(r:RS):u3 s [r]=qA s r:=rfl
theorem Vc(s:St)(r q:RS)(l:List RS):u3 s (r::q::l)=((r::q::l).mapM (qA s)).map .tup:=rfl
theorem Ro(e:List AV)(l:List (List AV))(h:AH)(n:Nat):qA ⟨e,l,h⟩ (.t n)=some (e.getD n .any):=rfl
theorem RU(e:List AV)(l:List (List AV))(h:AH)(a n:Nat)(agg:Bool):qA ⟨e,l,h⟩ (.cell a n agg)=((St.mk e l h).cells (e.getD a .any) n).bind (iN agg):=rfl
theorem Kb(s:St)(v:AV):AR.iH s (some v)=.val v s:=rfl
theorem Ml(s:St):AR.Fs (some s)=.val (.tup []) s:=rfl
theorem LF(v:AV)(s:St):AR.EC (some (v,s))=.val v s:=rfl
theorem KA(gl:Bool)(s:St)(x:X):step Γ gl s (.mov x)=.val (s.eval Γ x) s:=rfl
theorem Lb(gl:Bool)(s:St)(op:BinOp)(ek:EK)(x y:X):step Γ gl s (.bin op ek x y)=.iH s (dY op ek (s.eval Γ x) (s.eval Γ y)):=rfl
def Im(a b:AV)(s:St):AV→AR|.bool t=>.val (if t=true then a else b) s|_=>.stuck
theorem Gw(gl:Bool)(s:St)(c a b:X):step Γ gl s (.pick c a b)=Im (s.eval Γ a) (s.eval Γ b) s (s.eval Γ c):=by simp only[step,Im];cases s.eval Γ c<;>rfl
theorem RW(a b:AV)(s:St)(t:Bool):Im a b s (.bool t)=.val (if t=true then a else b) s:=rfl
theorem Sk(gl:Bool)(s:St)(op:UnOp)(x:X):step Γ gl s (.un op x)=.iH s (To op (s.eval Γ x)):=rfl
def rE(b:Bool)(v:AV):Option AV:=(rY b v).map fun n:Nat=>.int .i64 (n:Int)
theorem LZ(gl:Bool)(s:St)(b:Bool)(x:X):step Γ gl s (.len b x)=.iH s (rE b (s.eval Γ x)):=by
  simp only[step,rE];cases rY b (s.eval Γ x)<;>rfl
def GU(s:St)(sz:Nat)(x:AV):AV→AR|.int _ n=>.iH s (eJ sz x n)|_=>.stuck
theorem Gb(gl:Bool)(s:St)(sz:Nat)(x i:X):step Γ gl s (.idxs sz x i)=GU s sz (s.eval Γ x) (s.eval Γ i):=by simp only[step,GU];cases s.eval Γ i<;>rfl
theorem Dx(s:St)(sz:Nat)(x:AV)(k:IntKind)(n:Int):GU s sz x (.int k n)=.iH s (eJ sz x n):=rfl
theorem HP(gl:Bool)(s:St)(n:Nat)(b:Bool)(a:X):step Γ gl s (.load n b a)=.iH s ((s.cells (s.eval Γ a) n).bind (iN b)):=rfl
theorem JD(gl:Bool)(s:St)(off:Nat)(x:X):step Γ gl s (.fld off x)=.iH s (md off (s.eval Γ x)):=rfl
theorem Px(k:IntKind)(a b:Int):dY .eql .num (.int k a) (.int k b)=some (.bool (a == b)):=by simp[dY,iC]
theorem TA(k:IntKind)(a b:Int):dY .neq .num (.int k a) (.int k b)=some (.bool (a != b)):=by simp[dY,iC]
theorem Tb(k:IntKind)(a b:Int):dY .lss .num (.int k a) (.int k b)=some (.bool (decide (a<b))):=by simp[dY,iC]
theorem Sp(k:IntKind)(a b:Int):dY .leq .num (.int k a) (.int k b)=some (.bool (decide (a≤b))):=by simp[dY,iC]
theorem S8(k:IntKind)(a b:Int):dY .gtr .num (.int k a) (.int k b)=some (.bool (decide (b<a))):=by simp[dY,iC]
theorem Qt(k:IntKind)(a b:Int):dY .geq .num (.int k a) (.int k b)=some (.bool (decide (b≤a))):=by simp[dY,iC]
theorem No(k:IntKind)(a b:Int):dY .add .num (.int k a) (.int k b)=some (.int k (k.wrap (a+b))):=by simp[dY,iC]
theorem MQ(k:IntKind)(a b:Int):dY .sub .num (.int k a) (.int k b)=some (.int k (k.wrap (a-b))):=by simp[dY,iC]
theorem JO(k:IntKind)(a b:Int):dY .mul .num (.int k a) (.int k b)=some (.int k (k.wrap (a*b))):=by simp[dY,iC]
theorem LS(a b:Bool):dY .neq .bool (.bool a) (.bool b)=some (.bool !(a == b)):=rfl
theorem Mj(a b:Bool):dY .eql .bool (.bool a) (.bool b)=some (.bool (a == b)):=rfl
theorem Li(a b:ByteArray):dY .neq .num (.str a) (.str b)=some (.bool !(a.toList == b.toList)):=rfl
theorem NA(a b:ByteArray):dY .eql .num (.str a) (.str b)=some (.bool (a.toList == b.toList)):=rfl
theorem Mo(b:Bool):To .not (.bool b)=some (.bool !b):=rfl
theorem TZ(off:Nat)(β:Bool)(cs:List AV):md off (.ip β cs)=some (.ip β (cs.drop off)):=rfl
theorem Sg(off i o:Nat):md off (.lp i o)=some (.lp i (o+off)):=rfl
theorem Sa(off b g o:Nat):md off (.gp b g o)=some (.gp b g (o+off)):=rfl
theorem UN(s:St)(β:Bool)(cs:List AV)(n:Nat):s.cells (.ip β cs) n=sub cs 0 n:=rfl
theorem Xa(x:AV):iN false [x]=some x:=rfl
theorem WA(cs:List AV):iN true cs=some (.agg cs):=rfl
inductive SH where
  | nil|v (β ex:Bool)
  deriving DecidableEq,Inhabited
def SH.β:SH→Bool|.nil=>false|.v β _=>β
def sl(s:SH)(sz:Nat)(xs:List (List AV)):AV:=match s with|.nil=>.nils|.v β ex=>.vs β sz ex xs
def SH.ok(s:SH)(n:Nat):Prop:=s=.nil→n=0
theorem CR{s:SH}{sz:Nat}{xs:List (List AV)}(h:s.ok xs.length):rE false (sl s sz xs)=some (.int .i64 xs.length):=by
  cases s with
  | nil=>have:=h rfl;simp[sl,rE,rY,this]
  | v β ex=>rfl
theorem A3{s:SH}{sz:Nat}{xs:List (List AV)}(h:s.ok xs.length){k:Nat}(hk:k<xs.length):eJ sz (sl s sz xs) (k:Int)=some (.ip s.β xs[k]):=by
  cases s with
  | nil=>have:=h rfl;omega
  | v β ex=>simp[sl,eJ,SH.β,hk]
theorem iv{n:Int}(h0:-9223372036854775808≤n)(h1:n<9223372036854775808):IntKind.i64.wrap n=n:=by
  simp[IntKind.wrap,IntKind.bits,IntKind.signed,IntKind.max,IntKind.min]
  omega
theorem RK(x:AV):sub [x] 0 1=some [x]:=rfl
theorem EV:type_of% (And.intro @GR (And.intro @Nl (And.intro @KZ (And.intro @GH (And.intro @D5 (And.intro @GA (And.intro @Gk (And.intro @Ls (And.intro @Ry (And.intro @QL (And.intro @TV (And.intro @UH (And.intro @Qr (And.intro @TQ (And.intro @WG (And.intro @We (And.intro @Xe (And.intro @WE (And.intro @Xf (And.intro @Wi (And.intro @WH (And.intro @PH (And.intro @Rq (And.intro @SF (And.intro @Ns (And.intro @LR (And.intro @Sb (And.intro @Qe (And.intro @GY (And.intro @Hp (And.intro @Ft (And.intro @HC (And.intro @GF (And.intro @Ef (And.intro @Hm (And.intro @FM (And.intro @FV (And.intro @Il (And.intro @F9 (And.intro @DT (And.intro @Kb (And.intro @Ml (And.intro @LF (And.intro @KA (And.intro @Lb (And.intro @Sk (And.intro @LZ (And.intro @Gb (And.intro @Dx (And.intro @HP (And.intro @JD (And.intro @Px (And.intro @TA (And.intro @Tb (And.intro @Sp (And.intro @S8 (And.intro @Qt (And.intro @No (And.intro @MQ (And.intro @JO (And.intro @Mo (And.intro @LS (And.intro @Mj (And.intro @Li (And.intro @NA (And.intro @TZ (And.intro @Sg (And.intro @Sa (And.intro @UN (And.intro @Xa (And.intro @WA (And.intro @WQ (And.intro @WY (And.intro @WK (And.intro @Qf (And.intro @RJ (And.intro @SQ (And.intro @O0 (And.intro @QB (And.intro @UJ (And.intro @Qd (And.intro @Gw (And.intro @RW (And.intro @Wp (And.intro @Vc (And.intro @Ro (And.intro @RU (@RK)))))))))))))))))))))))))))))))))))))))))))))))))))))))))))))))))))))))))))))))))))))))):=And.intro @GR (And.intro @Nl (And.intro @KZ (And.intro @GH (And.intro @D5 (And.intro @GA (And.intro @Gk (And.intro @Ls (And.intro @Ry (And.intro @QL (And.intro @TV (And.intro @UH (And.intro @Qr (And.intro @TQ (And.intro @WG (And.intro @We (And.intro @Xe (And.intro @WE (And.intro @Xf (And.intro @Wi (And.intro @WH (And.intro @PH (And.intro @Rq (And.intro @SF (And.intro @Ns (And.intro @LR (And.intro @Sb (And.intro @Qe (And.intro @GY (And.intro @Hp (And.intro @Ft (And.intro @HC (And.intro @GF (And.intro @Ef (And.intro @Hm (And.intro @FM (And.intro @FV (And.intro @Il (And.intro @F9 (And.intro @DT (And.intro @Kb (And.intro @Ml (And.intro @LF (And.intro @KA (And.intro @Lb (And.intro @Sk (And.intro @LZ (And.intro @Gb (And.intro @Dx (And.intro @HP (And.intro @JD (And.intro @Px (And.intro @TA (And.intro @Tb (And.intro @Sp (And.intro @S8 (And.intro @Qt (And.intro @No (And.intro @MQ (And.intro @JO (And.intro @Mo (And.intro @LS (And.intro @Mj (And.intro @Li (And.intro @NA (And.intro @TZ (And.intro @Sg (And.intro @Sa (And.intro @UN (And.intro @Xa (And.intro @WA (And.intro @WQ (And.intro @WY (And.intro @WK (And.intro @Qf (And.intro @RJ (And.intro @SQ (And.intro @O0 (And.intro @QB (And.intro @UJ (And.intro @Qd (And.intro @Gw (And.intro @RW (And.intro @Wp (And.intro @Vc (And.intro @Ro (And.intro @RU (@RK)))))))))))))))))))))))))))))))))))))))))))))))))))))))))))))))))))))))))))))))))))))))
end
end Go.AM
namespace Go.AM
section
variable {P:Program} {Θ:mQ} {Γ:cj}
theorem ah.val{f:FuncId}{args:List AV}{s:St}{K:AV→St→Prop}{V:AV}(ho:args.all eH=true)(t:T P Γ f args s.heap fun v h'=>v=V∧h'=s.heap)(hk:K V s):ah P Γ f args s K:=
  ah.ref ho t (by rintro v h' ⟨rfl,rfl⟩;exact hk)
theorem JU(s:St):List.map (s.eval Γ) []=[]:=rfl
theorem My(s:St)(x:X)(xs:List X):List.map (s.eval Γ) (x::xs)=s.eval Γ x::List.map (s.eval Γ) xs:=rfl
theorem LX(xs:List AV):[]++xs=xs:=rfl
theorem MX(x:AV)(xs ys:List AV):(x::xs)++ys=x::(xs++ys):=rfl
def FX(xs:List AV):AV→AR|.fn g first caps=>.call g (first++(xs++caps))|_=>.stuck
theorem GV(gl:Bool)(s:St)(f:X)(xs:List X):step Γ gl s (.call f xs)=FX (xs.map (s.eval Γ)) (s.eval Γ f):=by
  simp only[step,FX];cases s.eval Γ f<;>simp
theorem DK(xs:List AV)(g:FuncId)(first caps:List AV):FX xs (.fn g first caps)=.call g (first++(xs++caps)):=rfl
theorem KF(gl:Bool)(s:St)(f:FuncId)(a b:List X):step Γ gl s (.mkf f a b)=.val (.fn f (a.map (s.eval Γ)) (b.map (s.eval Γ))) s:=rfl
theorem g9(e:List AV)(l:List (List AV))(h:AH)(cs:List AV):(St.mk e l h).push cs=⟨e,l,h++[some (0,cs)]⟩:=rfl
def Tm(s:St)(sz bytes:Nat)(z:List AV):AV→AV→AR
  | .int _ ln,.int _ cp=>.EC (E8 s sz bytes z ln cp)
  | _,_=>.stuck
theorem Mh(gl:Bool)(s:St)(sz bytes:Nat)(z:List AV)(l c:X):step Γ gl s (.mks sz bytes z l c)=Tm s sz bytes z (s.eval Γ l) (s.eval Γ c):=by
  simp only[step];unfold Tm;rfl
def AF(s:St)(n:Nat)(a:AV):Option (List AV)→AR
  | some cs=>if cs.length=n then .Fs (s.store a cs)else .stuck
  | none=>.stuck
theorem Dq(gl:Bool)(s:St)(n:Nat)(a v:X):step Γ gl s (.store n a v)=AF s n (s.eval Γ a) (cellsOf (s.eval Γ v)):=by
  simp only[step,AF];cases cellsOf (s.eval Γ v)<;>rfl
theorem Tl(s:St)(a x:AV):AF s 1 a (some [x])=.Fs (s.store a [x]):=rfl
theorem T2(k:IntKind)(n:Int):cellsOf (.int k n)=some [.int k n]:=rfl
theorem PJ(b:Bool):cellsOf (.bool b)=some [.bool b]:=rfl
theorem Tt(b:ByteArray):cellsOf (.str b)=some [.str b]:=rfl
theorem S5(cs:List AV):cellsOf (.agg cs)=some cs:=rfl
theorem MP(β:Bool)(sz:Nat)(ex:Bool)(xs:List (List AV)):cellsOf (.vs β sz ex xs)=some [.vs β sz ex xs]:=rfl
theorem KO(b g off len cap sz:Nat)(ex:Bool):cellsOf (.gs b g off len cap sz ex)=some [.gs b g off len cap sz ex]:=rfl
theorem K5:cellsOf .nilp=some [.nilp]:=rfl
theorem MK:cellsOf .nils=some [.nils]:=rfl
theorem cw(h:AH)(x:Nat×List AV):bJ (h++[some x]) h.length=some x:=by simp[bJ]
theorem um{e:List AV}{l:List (List AV)}{h:AH}{cs vs:List AV}{off:Nat}(h1:off+vs.length≤cs.length)(h2:vs.all bo=true):
    (St.mk e l (h++[some (0,cs)])).store (.gp h.length 0 off) vs=some ⟨e,l,h++[some (0,cB cs off vs)]⟩:=by
  simp only[St.store,cw,Option.bind_some,if_true,if_pos h1,h2]
  simp
theorem hB{e:List AV}{l:List (List AV)}{h:AH}{cs:List AV}{off n:Nat}:(St.mk e l (h++[some (0,cs)])).cells (.gp h.length 0 off) n=sub cs off n:=by
  simp only[St.cells,cw,Option.bind_some,if_true]
theorem nN{b g off len cap sz:Nat}{ex:Bool}{k:Nat}(hk:k<len):eJ sz (.gs b g off len cap sz ex) (k:Int)=some (.gp b g (off+k*sz)):=by
  have:((k:Int)<(len:Int)):=by omega
  simp[eJ,this]
def Dg(gl:Bool)(s:St):Option (List AV)→AR
  | some cs=>if gl=true then (if cs.all bo then .val (.gp s.heap.length 0 0) (s.push cs)else .stuck)else .val (.lp s.loc.length 0) { s with loc:=s.loc++[cs] }
  | none=>.stuck
theorem KD(gl:Bool)(s:St)(x:X):step Γ gl s (.box x)=Dg gl s (cellsOf (s.eval Γ x)):=by
  simp only[step,Dg];cases cellsOf (s.eval Γ x)<;>rfl
theorem pQ(s:St)(cs:List AV)(h:cs.all bo=true):Dg true s (some cs)=.val (.gp s.heap.length 0 0) (s.push cs):=by simp[Dg,h]
theorem Nj(e:List AV)(l:List (List AV))(h:AH)(cs:List AV):Dg false ⟨e,l,h⟩ (some cs)=.val (.lp l.length 0) ⟨e,l++[cs],h⟩:=rfl
def vb(gl:Bool)(s:St)(z:List AV):AR:=if gl=true then (if z.all bo then .val (.gp s.heap.length 0 0) (s.push z)else .stuck)else .val (.lp s.loc.length 0) { s with loc:=s.loc++[z] }
theorem DM(gl:Bool)(s:St)(z:List AV):step Γ gl s (.alloc z)=vb gl s z:=rfl
theorem re(s:St)(z:List AV)(h:z.all bo=true):vb true s z=.val (.gp s.heap.length 0 0) (s.push z):=by simp[vb,h]
theorem DJ(e:List AV)(l:List (List AV))(h:AH)(z:List AV):vb false ⟨e,l,h⟩ z=.val (.lp l.length 0) ⟨e,l++[z],h⟩:=rfl
theorem Ue(a:Nat)(gl:Gl)(d:Nat)(g:Option (Nat×Bool))(i:I):kV (a::gl) ⟨some d,g,i⟩=(d == a || kV gl ⟨some d,g,i⟩):=by simp only[kV,O.dst,List.contains_cons]
theorem KG(f:FuncId)(a b:List AV):cellsOf (.fn f a b)=some [.fn f a b]:=rfl
theorem Q7(b:Bool):eH (.bool b)=true:=rfl
theorem Sl(k:IntKind)(n:Int):eH (.int k n)=true:=rfl
theorem Rp(b:ByteArray):eH (.str b)=true:=rfl
theorem JI:eH .nilp=true:=rfl
theorem Lj:eH .nils=true:=rfl
theorem Lv:eH .nilf=true:=rfl
theorem Nx(b g off:Nat):eH (.gp b g off)=true:=rfl
theorem K0(β:Bool)(cs:List AV):eH (.ip β cs)=true:=rfl
theorem Mz(b g off len cap sz:Nat)(ex:Bool):eH (.gs b g off len cap sz ex)=true:=rfl
theorem Ky(β:Bool)(sz:Nat)(ex:Bool)(xs:List (List AV)):eH (.vs β sz ex xs)=true:=rfl
theorem SI(cs:List AV):eH (.agg cs)=cs.all bo:=rfl
theorem PN(f:FuncId)(a b:List AV):eH (.fn f a b)=(a.all iJ && b.all iJ):=rfl
theorem O7(b:Bool):bo (.bool b)=true:=rfl
theorem SY(k:IntKind)(n:Int):bo (.int k n)=true:=rfl
theorem Un(b:ByteArray):bo (.str b)=true:=rfl
theorem Lq:bo .nilp=true:=rfl
theorem JY:bo .nils=true:=rfl
theorem K9(b g off:Nat):bo (.gp b g off)=true:=rfl
theorem Jw(β:Bool)(cs:List AV):bo (.ip β cs)=true:=rfl
theorem Ng(b g off len cap sz:Nat)(ex:Bool):bo (.gs b g off len cap sz ex)=true:=rfl
theorem Mm(β:Bool)(sz:Nat)(ex:Bool)(xs:List (List AV)):bo (.vs β sz ex xs)=true:=rfl
theorem Md(b g off:Nat):iJ (.gp b g off)=true:=rfl
theorem SM(k:IntKind)(n:Int):iJ (.int k n)=true:=rfl
theorem L5(β:Bool)(cs:List AV):iJ (.ip β cs)=true:=rfl
theorem Nt(p:AV→Bool):List.all [] p=true:=rfl
theorem L7(p:AV→Bool)(x:AV)(xs:List AV):List.all (x::xs) p=(p x && List.all xs p):=rfl
theorem T.drop{f:FuncId}{args:List AV}{h:AH}{Q K:AV→AH→Prop}(t:T P Γ f args h Q)(hq:∀v h',Q v h'→∃new,h'=h++new∧Iy h.length v∧K v h):T P Γ f args h K:=by
  refine t.freeze fun v h' q=>?_
  obtain⟨new,rfl,h1,h2⟩:=hq v h' q
  exact⟨h,new,v,rfl,rfl,fun b g cs hb=>.inl hb,.same v h1,h2⟩
def oI:List O→Nat→Option O
  | [],_=>none
  | o::_,0=>some o
  | _::os,n+1=>oI os n
theorem Nc:∀(os:List O) (j:Nat),os[j]? = oI os j
  | [],_=>by simp[oI]
  | o::os,0=>by simp[oI]
  | o::os,n+1=>by simpa[oI]using Nc os n
def Hz(P:Program)(Γ:cj)(gl:Gl)(os:List O)(K:St→Prop)(s:St):Option O→Prop
  | some o=>CX P Γ K o.dst s (guardOf os s o.gd) (step Γ (kV gl o) s o.op)
  | none=>K s
def G7(s:St)(K:St→Prop)(s':St):Prop:=Mem s s'∧K s'
theorem Tf(o:O)(os:List O):oI (o::os) 0=some o:=rfl
theorem Up(o:O)(os:List O)(n:Nat):oI (o::os) (n+1)=oI os n:=rfl
theorem MW(gl:Gl)(os:List O)(K:St→Prop)(s:St)(o:O):Hz P Γ gl os K s (some o)=CX P Γ K o.dst s (guardOf os s o.gd) (step Γ (kV gl o) s o.op):=rfl
theorem nj(gl:Gl)(os:List O)(i:Nat)(K:St→Prop)(s:St):vl P Γ gl os i K s=Hz P Γ gl os K s (oI os i):=by
  unfold vl
  rw[Nc]
  cases oI os i with
  | none=>rfl
  | some o=>
    simp only[Hz,CX]
    cases guardOf os s o.gd with
    | none=>rfl
    | some t=>cases step Γ (kV gl o) s o.op<;>rfl
theorem Sr(gl:Gl)(os:List O)(K:St→Prop)(s:St):bH P Γ gl os K 0 .done s=K s:=rfl
theorem WB(gl:Gl)(os:List O)(K:St→Prop)(n i:Nat)(d:D)(s:St):bH P Γ gl os K (n+1) (.q i d) s=Hz P Γ gl os (bH P Γ gl os K n d) s (oI os i):=by
  rw[←nj];rfl
theorem O1(gl:Gl)(os:List O)(K:St→Prop)(n i:Nat)(d:D)(s:St):bH P Γ gl os K (n+1) (.all [(i,d)]) s=Hz P Γ gl os (G7 s (bH P Γ gl os K n d)) s (oI os i):=by
  rw[←nj];simp only[bH,vf,and_true];rfl
theorem SB(gl:Gl)(os:List O)(K:St→Prop)(n i:Nat)(d:D)(p:Nat×D)(ds:List (Nat×D))(s:St):bH P Γ gl os K (n+1) (.all ((i,d)::p::ds)) s =
    (Hz P Γ gl os (G7 s (bH P Γ gl os K n d)) s (oI os i)∧bH P Γ gl os K (n+1) (.all (p::ds)) s):=by
  rw[←nj];simp only[bH,vf];rfl
def Jl(rs:List Nat)(s:St)(K:St→Prop)(s':St):Prop:=fY rs s s'∧K s'
theorem Nr(gl:Gl)(os:List O)(K:St→Prop)(n i:Nat)(rs:List Nat)(d:D)(s:St):bH P Γ gl os K (n+1) (.mix [(i,some rs,d)]) s=Hz P Γ gl os (Jl rs s (bH P Γ gl os K n d)) s (oI os i):=by
  rw[←nj];simp only[bH,qy,and_true];rfl
theorem MR(gl:Gl)(os:List O)(K:St→Prop)(n i:Nat)(d:D)(s:St):bH P Γ gl os K (n+1) (.mix [(i,none,d)]) s=Hz P Γ gl os (G7 s (bH P Γ gl os K n d)) s (oI os i):=by
  rw[←nj];simp only[bH,qy,and_true];rfl
theorem Ms(gl:Gl)(os:List O)(K:St→Prop)(n i:Nat)(rs:List Nat)(d:D)(p:Nat×Option (List Nat)×D)(ds:List (Nat×Option (List Nat)×D))(s:St):bH P Γ gl os K (n+1) (.mix ((i,some rs,d)::p::ds)) s =
    (Hz P Γ gl os (Jl rs s (bH P Γ gl os K n d)) s (oI os i)∧bH P Γ gl os K (n+1) (.mix (p::ds)) s):=by
  rw[←nj];simp only[bH,qy];rfl
theorem Mq(gl:Gl)(os:List O)(K:St→Prop)(n i:Nat)(d:D)(p:Nat×Option (List Nat)×D)(ds:List (Nat×Option (List Nat)×D))(s:St):bH P Γ gl os K (n+1) (.mix ((i,none,d)::p::ds)) s =
    (Hz P Γ gl os (G7 s (bH P Γ gl os K n d)) s (oI os i)∧bH P Γ gl os K (n+1) (.mix (p::ds)) s):=by
  rw[←nj];simp only[bH,qy];rfl
theorem Qc(gl:Gl)(os:List O)(K:St→Prop)(n i:Nat)(rs:List Nat)(d:D)(s:St):bH P Γ gl os K (n+1) (.st i rs d) s=Hz P Γ gl os (Jl rs s (bH P Γ gl os K n d)) s (oI os i):=by
  rw[←nj];rfl
theorem Xk(rs:List Nat)(s:St)(K:St→Prop)(s':St):Jl rs s K s'=(fY rs s s'∧K s'):=rfl
def Cz(k:Nat):AV→Bool|.lp i _=>i != k|.gp ..=>true|.ip ..=>true|_=>false
def Hy:AV→Bool|.lp ..=>true|.ip ..=>true|_=>false
theorem cW{rs:List Nat}{s s':St}(m:Mem s s'):fY rs s s':=fun r _ n cs h=>yH m h
theorem Bb(k:Nat){rs:List Nat}{e e':List AV}{L:List (List AV)}{z:List AV}{h:AH}(hb:(rs.all fun r=>Cz k (e.getD r .any))=true):fY rs ⟨e,L,h⟩ ⟨e',L.set k z,h⟩:=by
  intro r hr n cs h5
  have hb:=List.all_eq_true.1 hb r hr
  simp only at h5 ⊢
  generalize e.getD r .any=p at h5 hb ⊢
  cases p with
  | lp i off=>
    simp only[Cz,bne_iff_ne,ne_eq]at hb
    simp only[St.cells]at h5 ⊢
    rw[List.getElem?_set_ne (Ne.symm hb)];exact h5
  | gp b g off=>exact h5
  | ip β xs=>exact h5
  | _=>simp[Cz]at hb
theorem g6{rs:List Nat}{e e':List AV}{L L':List (List AV)}{h h':AH}(hb:(rs.all fun r=>Hy (e.getD r .any))=true):fY rs ⟨e,L,h⟩ ⟨e',L++L',h'⟩:=by
  intro r hr n cs h5
  have hb:=List.all_eq_true.1 hb r hr
  simp only at h5 ⊢
  generalize e.getD r .any=p at h5 hb ⊢
  cases p with
  | lp i off=>
    simp only[St.cells]at h5 ⊢
    cases hx:L[i]? with
    | none=>simp[hx]at h5
    | some l=>rw[List.getElem?_append_left (aG hx),hx];simpa[hx]using h5
  | ip β xs=>exact h5
  | _=>simp[Hy]at hb
theorem eN{rs:List Nat}{e e':List AV}{L:List (List AV)}{h h':AH}(hb:(rs.all fun r=>Hy (e.getD r .any))=true):fY rs ⟨e,L,h⟩ ⟨e',L,h'⟩:=by
  have:=g6 (e':=e') (L:=L) (L':=[]) (h:=h) (h':=h') hb
  rwa[List.append_nil]at this
theorem Wg(s:St)(K:St→Prop)(s':St):G7 s K s'=(Mem s s'∧K s'):=rfl
theorem WX(e e':List AV)(l:List (List AV))(h:AH):Mem ⟨e,l,h⟩ ⟨e',l,h⟩=True:=eq_true (Mem.env _ _)
theorem Xi(e e':List AV)(l:List (List AV))(h n:AH):Mem ⟨e,l,h⟩ ⟨e',l,h++n⟩=True:=eq_true (Mem.heap ⟨e,l,h⟩ _ _)
theorem Wv(e e':List AV)(l l':List (List AV))(h:AH):Mem ⟨e,l,h⟩ ⟨e',l++l',h⟩=True:=eq_true (Mem.loc ⟨e,l,h⟩ _ _)
theorem PE(rs:List Nat)(e e':List AV)(l:List (List AV))(h:AH):fY rs ⟨e,l,h⟩ ⟨e',l,h⟩=True:=eq_true (cW (Mem.env _ _))
theorem Su(rs:List Nat)(e e':List AV)(l:List (List AV))(h n:AH):fY rs ⟨e,l,h⟩ ⟨e',l,h++n⟩=True:=eq_true (cW (Mem.heap ⟨e,l,h⟩ _ _))
theorem vu{xs:List (List AV)}{sz:Nat}(h:∀l∈xs,l.length=sz):xs.flatten.length=xs.length*sz:=by
  induction xs with
  | nil=>simp
  | cons x xs ih=>simp[ih (fun l hl=>h l (by simp[hl])),h x (by simp),Nat.succ_mul,Nat.add_comm]
theorem Cw(s:SH)(sz:Nat)(xs:List (List AV)):eH (sl s sz xs)=true:=by cases s<;>rfl
theorem DW(s:SH)(sz:Nat)(xs:List (List AV)):bo (sl s sz xs)=true:=by cases s<;>rfl
theorem Mc(s:SH)(sz:Nat)(xs:List (List AV)):cellsOf (sl s sz xs)=some [sl s sz xs]:=by cases s<;>rfl
theorem wN{n:Nat}(h:n<9223372036854775807):IntKind.i64.wrap ((n:Int)+1)=((n+1:Nat):Int):=by
  rw[iv (by omega) (by omega)];rfl
end
theorem EO:type_of% (And.intro @Q7 (And.intro @Sl (And.intro @Rp (And.intro @JI (And.intro @Lj (And.intro @Lv (And.intro @Nx (And.intro @K0 (And.intro @Mz (And.intro @Ky (And.intro @SI (And.intro @PN (And.intro @O7 (And.intro @SY (And.intro @Un (And.intro @Lq (And.intro @JY (And.intro @K9 (And.intro @Jw (And.intro @Ng (And.intro @Mm (And.intro @Md (And.intro @SM (And.intro @L5 (And.intro @Nt (And.intro @L7 (And.intro @Cw (And.intro @DW (And.intro @Bool.and_true (@Bool.true_and)))))))))))))))))))))))))))))):=And.intro @Q7 (And.intro @Sl (And.intro @Rp (And.intro @JI (And.intro @Lj (And.intro @Lv (And.intro @Nx (And.intro @K0 (And.intro @Mz (And.intro @Ky (And.intro @SI (And.intro @PN (And.intro @O7 (And.intro @SY (And.intro @Un (And.intro @Lq (And.intro @JY (And.intro @K9 (And.intro @Jw (And.intro @Ng (And.intro @Mm (And.intro @Md (And.intro @SM (And.intro @L5 (And.intro @Nt (And.intro @L7 (And.intro @Cw (And.intro @DW (And.intro @Bool.and_true (@Bool.true_and)))))))))))))))))))))))))))))
theorem EL:type_of% (And.intro @Nr (And.intro @MR (And.intro @Ms (And.intro @Mq (And.intro @PE (And.intro @Su (And.intro @JU (And.intro @My (And.intro @LX (And.intro @MX (And.intro @GV (And.intro @DK (And.intro @KF (And.intro @g9 (And.intro @Mh (And.intro @Dq (And.intro @Tl (And.intro @KD (And.intro @Nj (And.intro @DM (And.intro @DJ (And.intro @Ue (And.intro @KG (And.intro @Mc (And.intro @Bool.true_or (And.intro @Bool.false_or (And.intro @T2 (And.intro @PJ (And.intro @Tt (And.intro @S5 (And.intro @MP (And.intro @KO (And.intro @K5 (And.intro @MK (And.intro @Sr (And.intro @WB (And.intro @O1 (And.intro @SB (And.intro @Qc (And.intro @Xk (And.intro @MW (And.intro @Tf (And.intro @Up (And.intro @Wg (And.intro @WX (And.intro @Xi (And.intro @Wv (And.intro @true_and (@and_true))))))))))))))))))))))))))))))))))))))))))))))))):=And.intro @Nr (And.intro @MR (And.intro @Ms (And.intro @Mq (And.intro @PE (And.intro @Su (And.intro @JU (And.intro @My (And.intro @LX (And.intro @MX (And.intro @GV (And.intro @DK (And.intro @KF (And.intro @g9 (And.intro @Mh (And.intro @Dq (And.intro @Tl (And.intro @KD (And.intro @Nj (And.intro @DM (And.intro @DJ (And.intro @Ue (And.intro @KG (And.intro @Mc (And.intro @Bool.true_or (And.intro @Bool.false_or (And.intro @T2 (And.intro @PJ (And.intro @Tt (And.intro @S5 (And.intro @MP (And.intro @KO (And.intro @K5 (And.intro @MK (And.intro @Sr (And.intro @WB (And.intro @O1 (And.intro @SB (And.intro @Qc (And.intro @Xk (And.intro @MW (And.intro @Tf (And.intro @Up (And.intro @Wg (And.intro @WX (And.intro @Xi (And.intro @Wv (And.intro @true_and (@and_true))))))))))))))))))))))))))))))))))))))))))))))))
end Go.AM
namespace Go.AM
section
variable {P:Program} {Θ:mQ} {Γ:cj}
def O6(agg:Bool)(x:List AV):AV:=if agg=true then .agg x else x.getD 0 .any
def Ow(agg:Bool)(sz:Nat)(x:List AV):Prop:=x.length=sz∧(agg=true∨sz=1)
theorem Eg{agg:Bool}{sz:Nat}{x:List AV}(h:Ow agg sz x):(sub x 0 sz).bind (iN agg)=some (O6 agg x):=by
  obtain⟨h1,h2⟩:=h
  simp only[sub,Nat.zero_add,List.drop_zero]
  rw[if_pos (by omega),List.take_of_length_le (by omega)]
  rcases h2 with rfl|rfl
  · rfl
  · cases agg
    · match x,h1 with
      | [a],_=>rfl
    · rfl
def rU(p:List AV→Bool)(xs:List (List AV)):Int:=match xs.findIdx? p with|some i=>(i:Int)|none=>-1
def mr(sz:Nat)(agg:Bool):C:=.seq (.reg [⟨(some 4),none,.mov (.c (.int .i64 0))⟩]) (.seq (.seq (.reg [⟨(some 6),none,.mov (.t 0)⟩,
  ⟨(some 7),none,.len false (.t 6)⟩,
  ⟨(some 8),none,.mov (.c (.int .i64 0))⟩]) (.block 0 (.loop (.seq (.reg [⟨(some 9),none,.bin .lss (.num) (.t 8) (.t 7)⟩]) (.seq (.cond (.t 9) (.skip) (.exit 0)) (.seq (.block 1 (.seq (.reg [⟨(some 10),none,.mov (.t 8)⟩,
  ⟨(some 5),none,.mov (.t 10)⟩]) (.seq (.reg [⟨(some 11),none,.mov (.t 1)⟩,
  ⟨(some 12),none,.mov (.t 0)⟩,
  ⟨(some 13),none,.mov (.t 5)⟩,
  ⟨(some 14),none,.idxs sz (.t 12) (.t 13)⟩,
  ⟨(some 15),none,.load sz agg (.t 14)⟩,
  ⟨(some 16),none,.call (.t 11) [.t 15]⟩]) (.cond (.t 16) (.seq (.reg [⟨(some 17),none,.mov (.t 5)⟩,
  ⟨(some 4),none,.mov (.t 17)⟩]) (.ret)) (.skip))))) (.reg [⟨(some 18),none,.bin .add (.num) (.t 8) (.c (.int .i64 1))⟩,
  ⟨(some 8),none,.mov (.t 18)⟩]))))))) (.seq (.reg [⟨(some 4),none,.mov (.c (.int .i64 (-1)))⟩]) (.ret)))
abbrev CM(P:Program)(Θ:mQ)(Γ:cj)(f:FuncId)(c:C)(rs:List RS)(us:List AV):Prop:=
  ∀{a0 a1:AV} {h:AH} {K:AV→AH→Prop},TC P Θ Γ c (bF rs K) ⟨a0::a1::us,[],h⟩→T P Γ f [a0,a1] h K
theorem uO{p:List AV→Bool}:∀{xs:List (List AV)} {k:Nat} (hk:k<xs.length),(∀(i:Nat) (hi:i<xs.length),i<k→p xs[i]=false)→p xs[k]=true→xs.findIdx? p=some k
  | x::xs,0,hk,_,h=>by simp at h;simp[List.findIdx?_cons,h]
  | x::xs,k+1,hk,h0,h=>by
    have h1:=h0 0 (by simp) (by omega)
    simp at h1
    have:=uO (xs:=xs) (k:=k) (by simpa using hk) (fun i hi hik=>by have:=h0 (i+1) (by simpa using hi) (by omega);rwa[List.getElem_cons_succ]at this) (by simpa using h)
    simp[List.findIdx?_cons,h1,this]
theorem Bf{p:List AV→Bool}{xs:List (List AV)}(h:∀(i:Nat) (hi:i<xs.length),p xs[i]=false):xs.findIdx? p=none:=by
  rw[List.findIdx?_eq_none_iff]
  intro x hx
  obtain⟨i,hi,rfl⟩:=List.mem_iff_getElem.1 hx
  exact h i hi
theorem Ce(tab:eO P Θ)(hm:P.follows .mixedOrders=true){f:FuncId}{sz:Nat}{agg:Bool}(hE:CM P Θ Γ f (mr sz agg) [.t 4] [u,u,u,u,u,u,u,u,u,u,u,u,u,u,u,u,u])
    {s:SH} {xs:List (List AV)} (hs:s.ok xs.length) (hb:xs.length<1099511627776) (hx:∀x∈xs,Ow agg sz x∧eH (O6 agg x)=true) {g:FuncId} {first caps:List AV} (hc:(first++caps).all eH=true) (p:List AV→Bool) {h:AH}
    (hp:∀x∈xs,T P Γ g (first++([O6 agg x]++caps)) h fun v h'=>v=.bool (p x)∧h'=h):
    T P Γ f [sl s sz xs,.fn g first caps] h fun v h'=>v=.int .i64 (rU p xs)∧h'=h:=by
  have L0:=CR (sz:=sz) hs
  generalize e0:sl s sz xs=a0 at *
  refine hE (aD tab hm [] _ _ _ ?_)
  unfold mr
  simp only[EV,EL,L0]
  refine dD tab hm [] (fun k:Nat=>k≤xs.length∧∀(i:Nat) (hi:i<xs.length),i<k→p xs[i]=false) (fun k=>xs.length-k)
    (fun k=>⟨[a0,.fn g first caps,.any,.any,.any,.any,.any,.int .i64 xs.length,.int .i64 k,.any,.any,.any,.any,.any,.any,.any,.any,.any,.any],[],h⟩) 0 ⟨by omega,fun i hi h=>by omega⟩ ⟨by simp[eP,eM],rfl,rfl⟩ ?_
  rintro k ⟨hk,ht⟩
  simp only[EV,EL]
  refine bI (fun hlt=>?_) (fun hge=>?_)
  · have hlt:k<xs.length:=by simpa using hlt
    have hxk:=List.getElem_mem hlt
    have i0:=A3 (sz:=sz) hs hlt
    rw[e0]at i0
    simp only[EV,EL,i0,Eg (hx _ hxk).1]
    have hcall:=hp _ hxk
    refine ah.val ?_ hcall ?_
    · simp only[List.all_append,List.all_cons,List.all_nil,Bool.and_true,Bool.and_eq_true]at hc ⊢
      exact⟨hc.1,(hx _ hxk).2,hc.2⟩
    simp only[EV,EL]
    refine bI (fun hpt=>?_) (fun hpf=>?_)
    · simp only[EV,EL]
      refine⟨rfl,?_⟩
      simp[rU,uO hlt ht hpt]
    · simp only[EV,EL]
      refine⟨k+1,⟨hlt,fun i hi hik=>?_⟩,by omega,⟨?_,rfl,rfl⟩⟩
      · rcases Nat.lt_or_ge i k with h1|h1
        · exact ht i hi h1
        · have:i=k:=by omega
          subst this;exact hpf
      · rw[wN (by omega)]
        simp[eP,eM]
  · have hge:k=xs.length:=by simp at hge;omega
    simp only[EV,EL]
    refine⟨rfl,?_⟩
    simp[rU,Bf (fun i hi=>ht i hi (by omega))]
def p8(g:FuncId):C:=.seq (.reg [⟨(some 4),none,.mov (.c (.bool false))⟩]) (.seq (.reg [⟨(some 5),none,.mov (.t 0)⟩,
  ⟨(some 6),none,.mov (.t 1)⟩,
  ⟨(some 7),none,.call (.c (.fn g [] [])) [.t 5,.t 6]⟩,
  ⟨(some 8),none,.bin .geq (.num) (.t 7) (.c (.int .i64 0))⟩,
  ⟨(some 4),none,.mov (.t 8)⟩]) (.ret))
theorem Cy(p:List AV→Bool)(xs:List (List AV)):decide ((0:Int)≤rU p xs)=xs.any p:=by
  unfold rU
  cases h:xs.findIdx? p with
  | none=>
    rw[List.findIdx?_eq_none_iff]at h
    have:xs.any p=false:=by rw[List.any_eq_false];intro x hx;simpa using h x hx
    simp[this]
  | some i=>
    have:xs.any p=true:=by
      obtain⟨hi,h1,_⟩:=List.findIdx?_eq_some_iff_getElem.1 h
      exact List.any_eq_true.2 ⟨_,List.getElem_mem hi,h1⟩
    simp[this]
theorem CH(tab:eO P Θ)(hm:P.follows .mixedOrders=true){f g:FuncId}(hE:CM P Θ Γ f (p8 g) [.t 4] [u,u,u,u,u,u,u]){a0 a1:AV}(h0:eH a0=true)(h1:eH a1=true){p:List AV→Bool}{xs:List (List AV)}{h:AH}
    (hg:T P Γ g [a0,a1] h fun v h'=>v=.int .i64 (rU p xs)∧h'=h):T P Γ f [a0,a1] h fun v h'=>v=.bool (xs.any p)∧h'=h:=by
  refine hE (aD tab hm [] _ _ _ ?_)
  unfold p8
  simp only[EV,EL]
  refine ah.val (by simp[h0,h1]) hg ?_
  simp only[EV,EL,Cy]
  exact rfl
end
end Go.AM
