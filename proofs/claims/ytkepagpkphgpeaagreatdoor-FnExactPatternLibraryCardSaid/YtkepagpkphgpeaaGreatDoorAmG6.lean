import Derived.Test.YtkepagpkphgpeaaGreatDoorAmG5
import Derived.Laws.StructEq
import Derived.ChangeArms
import Derived.ChangeSame
import Derived.ChangeOld
import Derived.ChangeShapes
import Derived.RowKit
import Derived.RowKit3
set_option linter.unusedVariables false
set_option linter.unusedSimpArgs false
namespace Go.AM
section
variable {P:Program}
def ja:TK→Bool|.int _|.bool|.str=>true|_=>false
def fN(P:Program):List Field→Nat→List TK→Bool
  | [],_,[]=>true
  | f::fs,o,k::ks=>f.name != "_" && f.offset == o && (match P.underlying f.type with|some d=>gD d == k && ja k|none=>false) && fN P fs (o+1) ks
  | _,_,_=>false
def pI(P:Program)(t:TypeId)(ks:List TK):Bool:=
  !P.eqGuardType P.depth t && !P.stoodInHeld t && match P.underlying t with|some (.struct fs)=>fN P fs.toList 0 ks|_=>false
theorem nM{t:TypeId}{d:TypeDesc}(hu:P.underlying t=some d)(hb:ja (gD d)=true){xs:Array Value}{off:Nat}{v:Value}(hx:xs[off]? = some v)(w:World):(part t xs off).run P w=.ok v w:=by
  cases d<;>simp[gD,ja]at hb<;>simp[part,isAgg,run_underlying hu,hx]
theorem j8(d:Nat){w:World}{ρ:bO}{ls:List Nat}{xs ys:Array Value}:∀(fs:List Field) (o:Nat) (ks:List TK) (as bs:List AV) (r:Bool),fN P fs o ks=true→
    (∀(i:Nat) (x:AV),as[i]? = some x→∃y,xs[o+i]? = some y∧RV ρ ls x y)→(∀(i:Nat) (x:AV),bs[i]? = some x→∃y,ys[o+i]? = some y∧RV ρ ls x y)→lx ks as bs=some r→
    (Op.eqFields (d+1) xs ys fs).run P w=.ok r w
  | [],o,[],as,bs,r,hf,ha,hb,h=>by
    match as,bs,h with
    | [],[],h=>simp[lx]at h;subst h;simp[Op.eqFields]
  | f::fs,o,k::ks,as,bs,r,hf,ha,hb,h=>by
    match as,bs,h with
    | a::as,b::bs,h=>
      simp only[lx]at h
      obtain⟨e,h1,h2⟩:=dO h
      rw[Option.map_eq_some_iff]at h2
      obtain⟨e',h2,rfl⟩:=h2
      simp only[fN,Bool.and_eq_true,bne_iff_ne,ne_eq,beq_iff_eq]at hf
      obtain⟨⟨⟨f1,f2⟩,f3⟩,f4⟩:=hf
      obtain⟨y1,p1,r1⟩:=ha 0 a rfl
      obtain⟨y2,p2,r2⟩:=hb 0 b rfl
      have ih:=j8 d (w:=w) fs (o+1) ks as bs e' f4 (fun i x hx=>by have:=ha (i+1) x (by simpa using hx);rwa[show o+(i+1)=o+1+i by omega]at this)
        (fun i x hx=>by have:=hb (i+1) x (by simpa using hx);rwa[show o+(i+1)=o+1+i by omega]at this) h2
      split at f3
      · rename_i d' hu
        simp only[Bool.and_eq_true,beq_iff_eq]at f3
        obtain⟨f3,f5⟩:=f3
        have f6:ja (gD d')=true:=by rw[f3];exact f5
        have q1:=nM hu f6 (xs:=xs) (off:=o) (v:=y1) (by simpa using p1) w
        have q2:=nM hu f6 (xs:=ys) (off:=o) (v:=y2) (by simpa using p2) w
        have q3:(Op.equalIn (d+1) f.type y1 y2).run P w=.ok e w:=by
          rw[←f3]at h1
          cases d'<;>simp[gD,ja]at f6<;>simp only[gD]at h1<;>unfold rS at h1<;>(split at h1)<;>(try (cases h1;done))<;>rename_i h3<;>(try (cases h3;done))
          all_goals skip
          · injection h1 with h1;cases r1;cases r2;subst h1
            exact run_equalIn_bool' w d f.type _ _ hu
          · split at h1
            · rename_i hk
              injection h1 with h1;cases r1;cases r2;subst h1;subst hk
              exact run_equalIn_int w d f.type _ _ _ _ hu
            · cases h1
          · injection h1 with h1;cases r1;cases r2;subst h1
            exact run_equalIn_string w d f.type _ _ hu
        simp only[Op.eqFields,f1,ne_eq,not_false_eq_true,if_true,f2,Sem.run_bind,q1,q2,q3,Result.andThen_ok]
        cases e
        · simp
        · simpa using ih
      · cases f3
  | [],_,_::_,_,_,_,hf,_,_,_=>by simp[fN]at hf
  | _::_,_,[],_,_,_,hf,_,_,_=>by simp[fN]at hf
theorem rO{t:TypeId}{ks:List TK}(h:pI P t ks=true):kp P t ks:=by
  simp only[pI,Bool.and_eq_true,Bool.not_eq_true']at h
  obtain⟨⟨h1,h2⟩,h3⟩:=h
  refine⟨h1,fun w ρ ls as bs xs ys r ra rb ha=>?_⟩
  cases hu:P.underlying t with
  | none=>simp[hu]at h3
  | some d=>
    cases d<;>simp[hu]at h3
    rename_i fs
    have hfs:P.fieldsOf t=fs:=by simp[Program.fieldsOf,hu]
    unfold Op.equal
    have look:∀{as:List AV} {xs:Array Value},cV ρ ls as xs.toList→∀(i:Nat) (x:AV),as[i]? = some x→∃y,xs[0+i]? = some y∧RV ρ ls x y:=by
      intro as xs ra i x hx
      have hl:=ar hx
      have h:=ra.2 i x hx
      have hl':i<xs.toList.length:=by rw[←ra.1];exact hl
      have hl'':i<xs.size:=by simpa using hl'
      refine⟨xs[i],by simp[hl''],?_⟩
      simpa[List.getD_eq_getElem?_getD,hl'']using h
    rw[show Op.maxDepth=(Op.maxDepth-1)+1 from rfl,run_equalIn_struct w _ t xs ys (by rw[hfs];exact hu) h2,hfs]
    rw[show Op.maxDepth-1=(Op.maxDepth-2)+1 from rfl]
    exact j8 _ fs.toList 0 ks as bs r h3 (look ra) (look rb) ha
def uU(L:List (Nat×TI)):gQ:=fun t=>(L.find? fun p=>p.1 == t).map (·.2)
theorem xz{L:List (Nat×TI)}(h1:(L.map fun p=>CC P p.1)=L.map fun p=>some (p.2.kd,p.2.size,p.2.bytes,p.2.zero,true))
    (h2:(L.all fun p=>match p.2.plainEq with|none=>true|some ks=>pI P p.1 ks)=true):cn P (uU L):=by
  intro t ti h
  unfold uU at h
  rw[Option.map_eq_some_iff]at h
  obtain⟨p,hp,rfl⟩:=h
  have hm:=List.mem_of_find?_eq_some hp
  have ht:p.1=t:=by simpa using List.find?_some hp
  subst ht
  refine⟨List.map_inj_left.1 h1 p hm,fun ks hk=>?_⟩
  have:=List.all_eq_true.1 h2 p hm
  simp only[hk]at this
  exact rO this
def aD(f:Func):Code:=match f.body with|some c=>c|none=>.skip
abbrev u:AV:=.tup []
end
end Go.AM
namespace Go.AM
section
variable {P:Program} {Θ:gQ} {Γ:aZ}
theorem xn(a:AV)(l:List AV)(d:AV):(a::l).getD 0 d=a:=rfl
theorem xd(a b:AV)(l:List AV)(d:AV):(a::b::l).getD 1 d=b:=rfl
theorem wC(a b c:AV)(l:List AV)(d:AV):(a::b::c::l).getD 2 d=c:=rfl
theorem v8(a b c e:AV)(l:List AV)(d:AV):(a::b::c::e::l).getD 3 d=e:=rfl
theorem wh(a0 a1 a2 a3:AV)(l:List AV)(n:Nat)(d:AV):(a0::a1::a2::a3::l).getD (n+4) d=l.getD n d:=rfl
theorem tj(a0 a1 a2 a3 a4 a5 a6 a7 a8 a9 b0 b1 b2 b3 b4 b5:AV)(l:List AV)(n:Nat)(d:AV):
    (a0::a1::a2::a3::a4::a5::a6::a7::a8::a9::b0::b1::b2::b3::b4::b5::l).getD (n+16) d=l.getD n d:=rfl
theorem wi(a:AV)(l:List AV)(v:AV):(a::l).set 0 v=v::l:=rfl
theorem wo(a b:AV)(l:List AV)(v:AV):(a::b::l).set 1 v=a::v::l:=rfl
theorem wG(a b c:AV)(l:List AV)(v:AV):(a::b::c::l).set 2 v=a::b::v::l:=rfl
theorem xw(a b c e:AV)(l:List AV)(v:AV):(a::b::c::e::l).set 3 v=a::b::c::v::l:=rfl
theorem wg(a0 a1 a2 a3:AV)(l:List AV)(n:Nat)(v:AV):(a0::a1::a2::a3::l).set (n+4) v=a0::a1::a2::a3::l.set n v:=rfl
theorem tN(a0 a1 a2 a3 a4 a5 a6 a7 a8 a9 b0 b1 b2 b3 b4 b5:AV)(l:List AV)(n:Nat)(v:AV):
    (a0::a1::a2::a3::a4::a5::a6::a7::a8::a9::b0::b1::b2::b3::b4::b5::l).set (n+16) v=a0::a1::a2::a3::a4::a5::a6::a7::a8::a9::b0::b1::b2::b3::b4::b5::l.set n v:=rfl
theorem D6(e:List AV)(l:List (List AV))(h:AH)(n:Nat):(St.mk e l h).eval Γ (.t n)=e.getD n .any:=rfl
theorem Em(s:St)(v:AV):s.eval Γ (.c v)=v:=rfl
theorem Af(e:List AV)(l:List (List AV))(h:AH)(d:Nat)(v:AV):(St.mk e l h).put (some d) v=⟨e.set d v,l,h⟩:=rfl
theorem Bx(s:St)(v:AV):s.put none v=s:=rfl
theorem Fg:∀(gl:Gl) (g:Option (Nat×Bool)) (i:I),fC gl ⟨none,g,i⟩=false:=fun _ _ _=>rfl
theorem Hv(d:Nat)(g:Option (Nat×Bool))(i:I):fC [] ⟨some d,g,i⟩=false:=rfl
def rX(P:Program)(Γ:aZ)(K:St→Prop)(dst:Option Nat)(s:St)(g:Option Bool)(r:AR):Prop:=
  match g with
  | none=>False
  | some t=>br t (match r with|.val v s'=>K (s'.put dst v)|.call f args=>an P Γ f args s fun v s'=>K (s'.put dst v)|.stuck=>False) (K (s.put dst (.tup [])))
theorem KA(K:St→Prop)(d:Option Nat)(s:St)(v:AV)(s':St):rX P Γ K d s (some true) (.val v s')=K (s'.put d v):=propext (qg _ _)
theorem Kg(K:St→Prop)(d:Option Nat)(s:St)(f:FuncId)(args:List AV):rX P Γ K d s (some true) (.call f args)=an P Γ f args s fun v s'=>K (s'.put d v):=propext (qg _ _)
theorem KI(K:St→Prop)(d:Option Nat)(s:St)(r:AR):rX P Γ K d s (some false) r=K (s.put d (.tup [])):=propext (rE _ _)
theorem jb{K:St→Prop}{d:Option Nat}{s:St}{t:Bool}{r:AR}(h1:t=true→rX P Γ K d s (some true) r)(h2:t=false→rX P Γ K d s (some false) r):rX P Γ K d s (some t) r:=by
  cases t
  · exact h2 rfl
  · exact h1 rfl
theorem JM(gl:Gl)(os:List O)(K:St→Prop)(s:St):cC P Γ gl os [] K s=K s:=rfl
theorem Jj(gl:Gl)(os:List O)(o:O)(r:List O)(K:St→Prop)(s:St):cC P Γ gl os (o::r) K s=rX P Γ (cC P Γ gl os r K) o.dst s (guardOf os s o.gd) (step Γ (fC gl o) s o.op):=by
  simp only[cC,rX]
  cases guardOf os s o.gd with
  | none=>rfl
  | some t=>cases step Γ (fC gl o) s o.op<;>rfl
theorem Fx(os:List O)(s:St):guardOf os s none=some true:=rfl
def mM:List O→Nat→Option Nat
  | [],_=>none
  | o::_,0=>o.dst
  | _::os,n+1=>mM os n
theorem s0:∀(os:List O) (j:Nat),(os[j]?).bind (·.dst)=mM os j
  | [],_=>by simp[mM]
  | o::os,0=>by simp[mM]
  | o::os,n+1=>by simpa[mM]using s0 os n
def so(w:Bool):AV→Option Bool|.bool b=>some (b == w)|.any|.opq _=>none|_=>some false
def I2(e:List AV)(w:Bool):Option Nat→Option Bool|none=>some false|some d=>so w (e.getD d (.tup []))
theorem Dw(d:Option Nat)(g:Option (Nat×Bool))(i:I)(os:List O):mM (⟨d,g,i⟩::os) 0=d:=rfl
theorem Ic(o:O)(os:List O)(n:Nat):mM (o::os) (n+1)=mM os n:=rfl
theorem HA(os:List O)(e:List AV)(l:List (List AV))(h:AH)(j:Nat)(w:Bool):guardOf os ⟨e,l,h⟩ (some (j,w))=I2 e w (mM os j):=by
  simp only[guardOf,s0,I2]
  cases mM os j with
  | none=>rfl
  | some d=>
    simp only[List.getD_eq_getElem?_getD]
    cases e[d]? with
    | none=>rfl
    | some v=>cases v<;>rfl
theorem G9(e:List AV)(w:Bool)(d:Nat):I2 e w (some d)=so w (e.getD d (.tup [])):=rfl
theorem Fk(b:Bool):so true (.bool b)=some b:=by simp[so]
theorem DD(b:Bool):so false (.bool b)=some (!b):=by simp[so]
theorem Ec(w:Bool):so w (.tup [])=some false:=rfl
theorem kZ{K:St→Prop}{d:Option Nat}{s:St}{t:Bool}{r:AR}(h1:t=true→rX P Γ K d s (some false) r)(h2:t=false→rX P Γ K d s (some true) r):rX P Γ K d s (some (!t)) r:=by
  cases t
  · exact h2 rfl
  · exact h1 rfl
def qF(A B:St→Prop)(s:St):AV→Prop
  | .bool t=>br t (A s) (B s)
  | _=>False
theorem J5(A B:St→Prop)(s:St):qF A B s (.bool true)=A s:=propext (qg _ _)
theorem JY(A B:St→Prop)(s:St):qF A B s (.bool false)=B s:=propext (rE _ _)
theorem aR{A B:St→Prop}{s:St}{t:Bool}(h1:t=true→A s)(h2:t=false→B s):qF A B s (.bool t):=⟨h1,h2⟩
theorem vV(gl:Gl)(Q:AE→St→Prop)(s:St):aw P Θ Γ gl .skip Q s=Q .normal s:=rfl
theorem Aj(gl:Gl)(os:List O)(Q:AE→St→Prop)(s:St):aw P Θ Γ gl (.reg os) Q s=cC P Γ gl os os (Q .normal) s:=rfl
theorem Cg(gl:Gl)(a b:C)(Q:AE→St→Prop)(s:St):aw P Θ Γ gl (.seq a b) Q s=aw P Θ Γ gl a (eQ (aw P Θ Γ gl b Q) Q) s:=rfl
theorem uT(gl:Gl)(c:X)(a b:C)(Q:AE→St→Prop)(s:St):aw P Θ Γ gl (.cond c a b) Q s=qF (aw P Θ Γ gl a Q) (aw P Θ Γ gl b Q) s (s.eval Γ c):=by
  simp only[aw,qF];cases s.eval Γ c<;>rfl
theorem tK(gl:Gl)(id:Nat)(c:C)(Q:AE→St→Prop)(s:St):aw P Θ Γ gl (.block id c) Q s=aw P Θ Γ gl c (dX id Q) s:=rfl
theorem xa(gl:Gl)(c:C)(Q:AE→St→Prop)(s:St):aw P Θ Γ gl (.loop c) Q s=TC P Θ Γ (.loop c) Q s:=rfl
theorem vD(gl:Gl)(id:Nat)(Q:AE→St→Prop)(s:St):aw P Θ Γ gl (.exit id) Q s=Q (.exit id) s:=rfl
theorem B4(gl:Gl)(Q:AE→St→Prop)(s:St):aw P Θ Γ gl .ret Q s=Q .ret s:=rfl
theorem HF(K:St→Prop)(Q:AE→St→Prop):eQ K Q .normal=K:=rfl
theorem F7(K:St→Prop)(Q:AE→St→Prop)(id:Nat):eQ K Q (.exit id)=Q (.exit id):=rfl
theorem FF(K:St→Prop)(Q:AE→St→Prop):eQ K Q .ret=Q .ret:=rfl
theorem GB(id:Nat)(Q:AE→St→Prop):dX id Q .normal=Q .normal:=rfl
theorem Gt(id:Nat)(Q:AE→St→Prop):dX id Q .ret=Q .ret:=rfl
theorem EW(id:Nat)(Q:AE→St→Prop):dX id Q (.exit id)=Q .normal:=by funext s;simp[dX]
theorem ag(id i:Nat)(Q:AE→St→Prop)(h:(i == id)=false):dX id Q (.exit i)=Q (.exit i):=by
  funext s;simp only[dX];rw[if_neg (by simpa using h)]
def fy:Nat→Nat→D→Bool
  | 0,_,.done=>true
  | n+1,i,.q j d=>i == j && fy n (i+1) d
  | _,_,_=>false
def Ig(os:List O)(af:List (List Nat)):Bool:=match sched os af os.length (List.replicate os.length false)with|some d=>fy os.length 0 d|none=>false
theorem rl(gl:Gl)(os:List O)(K:St→Prop):∀(n i:Nat) (d:D) (s:St),i+n=os.length→fy n i d=true→bK P Γ gl os K n d s=cC P Γ gl os (os.drop i) K s
  | 0,i,.done,s,hi,_=>by rw[List.drop_of_length_le (by omega)];rfl
  | n+1,i,.q j d,s,hi,h=>by
    simp only[fy,Bool.and_eq_true,beq_iff_eq]at h
    obtain⟨rfl,h⟩:=h
    have hil:i<os.length:=by omega
    rw[List.drop_eq_getElem_cons hil,Jj]
    simp only[bK,lP,List.getElem?_eq_getElem hil,rX]
    cases guardOf os s os[i].gd with
    | none=>rfl
    | some t=>
      have:∀s,bK P Γ gl os K n d s=cC P Γ gl os (os.drop (i+1)) K s:=fun s=>rl gl os K n (i+1) d s (by omega) h
      have e:bK P Γ gl os K n d=cC P Γ gl os (os.drop (i+1)) K:=funext this
      rw[e]
      simp only
      cases step Γ (fC gl os[i]) s os[i].op<;>rfl
  | n+1,_,.done,_,_,h=>by simp[fy]at h
  | n+1,_,.all _,_,_,h=>by simp[fy]at h
  | 0,_,.q _ _,_,_,h=>by simp[fy]at h
  | 0,_,.all _,_,_,h=>by simp[fy]at h
  | n+1,_,.st _ _ _,_,_,h=>by simp[fy]at h
  | 0,_,.st _ _ _,_,_,h=>by simp[fy]at h
theorem Dz{os:List O}{af:List (List Nat)}(h:Ig os af=true)(gl:Gl)(Q:AE→St→Prop)(s:St):aw P Θ Γ gl (.regD os af) Q s=cC P Γ gl os os (Q .normal) s:=by
  unfold Ig at h
  simp only[aw]
  split at h
  · rename_i d hd
    rw[hd]
    exact rl gl os _ os.length 0 d s (by omega) h
  · cases h
theorem jz{os:List O}{af:List (List Nat)}{n:Nat}{d:D}(hn:os.length=n)(h:sched os af n (List.replicate n false)=some d)(gl:Gl)(Q:AE→St→Prop)(s:St):aw P Θ Γ gl (.regD os af) Q s=bK P Γ gl os (Q .normal) n d s:=by
  subst hn
  simp only[aw,h]
theorem w8(cA:cn P Θ)(hm:P.follows .mixedOrders=true)(gl:Gl):∀(c:C) (Q:AE→St→Prop) (s:St),aw P Θ Γ gl c Q s→qJ P Θ Γ gl c Q s:=by
  intro c
  induction c with
  | skip=>exact fun _ _ h=>h
  | reg os=>exact fun _ _ h=>h
  | regD os af=>
    intro Q s h
    simp only[aw]at h
    split at h
    · rename_i d hd
      exact sW cA hm gl (ml _ _ d s (lX _ _) hd h)
    · exact h.elim
  | seq a b iha ihb=>
    intro Q s h
    exact me a s (fun e s he=>by cases e<;>simp only[eQ]at he ⊢<;>first|exact ihb Q s he|exact he) (iha _ s h)
  | cond c a b iha ihb=>
    intro Q s h
    simp only[aw,qJ]at h ⊢
    split at h
    · rename_i t ht
      simp only[ht]
      exact⟨fun ht=>iha Q s (h.1 ht),fun ht=>ihb Q s (h.2 ht)⟩
    · exact h.elim
  | block id c ih=>exact fun Q s h=>ih _ s h
  | loop c=>exact fun _ _ h=>h
  | exit id=>exact fun _ _ h=>h
  | ret=>exact fun _ _ h=>h
theorem loop(cA:cn P Θ)(hm:P.follows .mixedOrders=true)(gl:Gl){c:C}{Q:AE→St→Prop}{s:St}{α:Type}(μ:α→Nat)(st:α→St)(x:α)(hs:Le s (st x))
    (round:∀x,aw P Θ Γ gl c (eQ (fun s'=>∃y,μ y<μ x∧Le s' (st y)) Q) (st x)):TC P Θ Γ (.loop c) Q s:=
  TC.le hs (tg cA gl μ st (fun x=>w8 cA hm gl _ _ _ (round x)) x)
theorem bU(cA:cn P Θ)(hm:P.follows .mixedOrders=true)(gl:Gl){c:C}{Q:AE→St→Prop}{s:St}{α:Type}(I:α→Prop)(μ:α→Nat)(st:α→St)(x:α)(hx:I x)(hs:Le s (st x))
    (round:∀x,I x→aw P Θ Γ gl c (eQ (fun s'=>∃y,I y∧μ y<μ x∧Le s' (st y)) Q) (st x)):TC P Θ Γ (.loop c) Q s:=by
  refine TC.le hs (tg cA gl (fun y:{ y // I y }=>μ y.1) (fun y=>st y.1) (fun y=>me _ _ ?_ (w8 cA hm gl _ _ _ (round y.1 y.2))) ⟨x,hx⟩)
  intro e s h
  cases e<;>simp only[eQ]at h ⊢
  · obtain⟨y,h1,h2,h3⟩:=h
    exact⟨⟨y,h1⟩,h2,h3⟩
  · exact h
  · exact h
def vO(K:AV→AH→Prop)(h:AH):Option AV→Prop
  | some v=>fO v=true∧K v h
  | none=>False
theorem Kx(rs:List RS)(K:AV→AH→Prop)(s:St):bl rs K .ret s=vO K s.heap (lI s rs):=by
  simp only[bl,vO];cases lI s rs<;>rfl
theorem Ky(rs:List RS)(K:AV→AH→Prop)(s:St):bl rs K .normal s=vO K s.heap (lI s rs):=by
  simp only[bl,vO];cases lI s rs<;>rfl
theorem Kn(K:AV→AH→Prop)(h:AH)(v:AV):vO K h (some v)=(fO v=true∧K v h):=rfl
theorem J0(s:St)(r:RS):lI s [r]=jq s r:=rfl
theorem JL(s:St)(r q:RS)(l:List RS):lI s (r::q::l)=((r::q::l).mapM (jq s)).map .tup:=rfl
theorem E7(e:List AV)(l:List (List AV))(h:AH)(n:Nat):jq ⟨e,l,h⟩ (.t n)=some (e.getD n .any):=rfl
theorem Ih(e:List AV)(l:List (List AV))(h:AH)(a n:Nat)(agg:Bool):jq ⟨e,l,h⟩ (.cell a n agg)=((St.mk e l h).cells (e.getD a .any) n).bind (dm agg):=rfl
theorem zR(s:St)(v:AV):AR.cZ s (some v)=.val v s:=rfl
theorem BH(s:St):AR.vP (some s)=.val (.tup []) s:=rfl
theorem z7(v:AV)(s:St):AR.uP (some (v,s))=.val v s:=rfl
theorem z8(gl:Bool)(s:St)(x:X):step Γ gl s (.mov x)=.val (s.eval Γ x) s:=rfl
theorem AK(gl:Bool)(s:St)(op:BinOp)(ek:EK)(x y:X):step Γ gl s (.bin op ek x y)=.cZ s (bg op ek (s.eval Γ x) (s.eval Γ y)):=rfl
def vv(a b:AV)(s:St):AV→AR|.bool t=>.val (if t=true then a else b) s|_=>.stuck
theorem wu(gl:Bool)(s:St)(c a b:X):step Γ gl s (.pick c a b)=vv (s.eval Γ a) (s.eval Γ b) s (s.eval Γ c):=by simp only[step,vv];cases s.eval Γ c<;>rfl
theorem F3(a b:AV)(s:St)(t:Bool):vv a b s (.bool t)=.val (if t=true then a else b) s:=rfl
theorem HH(gl:Bool)(s:St)(op:UnOp)(x:X):step Γ gl s (.un op x)=.cZ s (Dq op (s.eval Γ x)):=rfl
def gq(b:Bool)(v:AV):Option AV:=(kf b v).map fun n:Nat=>.int .i64 (n:Int)
theorem Ao(gl:Bool)(s:St)(b:Bool)(x:X):step Γ gl s (.len b x)=.cZ s (gq b (s.eval Γ x)):=by
  simp only[step,gq];cases kf b (s.eval Γ x)<;>rfl
def vc(s:St)(sz:Nat)(x:AV):AV→AR|.int _ n=>.cZ s (bN sz x n)|_=>.stuck
theorem vu(gl:Bool)(s:St)(sz:Nat)(x i:X):step Γ gl s (.idxs sz x i)=vc s sz (s.eval Γ x) (s.eval Γ i):=by simp only[step,vc];cases s.eval Γ i<;>rfl
theorem sS(s:St)(sz:Nat)(x:AV)(k:IntKind)(n:Int):vc s sz x (.int k n)=.cZ s (bN sz x n):=rfl
theorem vW(gl:Bool)(s:St)(n:Nat)(b:Bool)(a:X):step Γ gl s (.load n b a)=.cZ s ((s.cells (s.eval Γ a) n).bind (dm b)):=rfl
theorem Cc(gl:Bool)(s:St)(off:Nat)(x:X):step Γ gl s (.fld off x)=.cZ s (jx off (s.eval Γ x)):=rfl
theorem Ii(k:IntKind)(a b:Int):bg .eql .num (.int k a) (.int k b)=some (.bool (a == b)):=by simp[bg,dv]
theorem EU(k:IntKind)(a b:Int):bg .neq .num (.int k a) (.int k b)=some (.bool (a != b)):=by simp[bg,dv]
theorem FP(k:IntKind)(a b:Int):bg .lss .num (.int k a) (.int k b)=some (.bool (decide (a<b))):=by simp[bg,dv]
theorem Ei(k:IntKind)(a b:Int):bg .leq .num (.int k a) (.int k b)=some (.bool (decide (a≤b))):=by simp[bg,dv]
theorem Ht(k:IntKind)(a b:Int):bg .gtr .num (.int k a) (.int k b)=some (.bool (decide (b<a))):=by simp[bg,dv]
theorem Eg(k:IntKind)(a b:Int):bg .geq .num (.int k a) (.int k b)=some (.bool (decide (b≤a))):=by simp[bg,dv]
theorem Ay(k:IntKind)(a b:Int):bg .add .num (.int k a) (.int k b)=some (.int k (k.wrap (a+b))):=by simp[bg,dv]
theorem B9(k:IntKind)(a b:Int):bg .sub .num (.int k a) (.int k b)=some (.int k (k.wrap (a-b))):=by simp[bg,dv]
theorem Ce(k:IntKind)(a b:Int):bg .mul .num (.int k a) (.int k b)=some (.int k (k.wrap (a*b))):=by simp[bg,dv]
theorem Cl(a b:Bool):bg .neq .bool (.bool a) (.bool b)=some (.bool !(a == b)):=rfl
theorem zm(a b:Bool):bg .eql .bool (.bool a) (.bool b)=some (.bool (a == b)):=rfl
theorem AO(a b:ByteArray):bg .neq .num (.str a) (.str b)=some (.bool !(a.toList == b.toList)):=rfl
theorem zi(a b:ByteArray):bg .eql .num (.str a) (.str b)=some (.bool (a.toList == b.toList)):=rfl
theorem BG(b:Bool):Dq .not (.bool b)=some (.bool !b):=rfl
theorem D4(off:Nat)(β:Bool)(cs:List AV):jx off (.ip β cs)=some (.ip β (cs.drop off)):=rfl
theorem Eh(off i o:Nat):jx off (.lp i o)=some (.lp i (o+off)):=rfl
theorem DA(off b g o:Nat):jx off (.gp b g o)=some (.gp b g (o+off)):=rfl
theorem GN(s:St)(β:Bool)(cs:List AV)(n:Nat):s.cells (.ip β cs) n=sub cs 0 n:=rfl
theorem Kz(x:AV):dm false [x]=some x:=rfl
theorem Kh(cs:List AV):dm true cs=some (.agg cs):=rfl
inductive SH where
  | nil|v (β ex:Bool)
  deriving DecidableEq,Inhabited
def SH.β:SH→Bool|.nil=>false|.v β _=>β
def sl(s:SH)(sz:Nat)(xs:List (List AV)):AV:=match s with|.nil=>.nils|.v β ex=>.vs β sz ex xs
def SH.ok(s:SH)(n:Nat):Prop:=s=.nil→n=0
theorem aY{n:Int}(h0:-9223372036854775808≤n)(h1:n<9223372036854775808):IntKind.i64.wrap n=n:=by
  simp[IntKind.wrap,IntKind.bits,IntKind.signed,IntKind.max,IntKind.min]
  omega
theorem Ie(x:AV):sub [x] 0 1=some [x]:=rfl
theorem EV:type_of% (And.intro @vV (And.intro @Aj (And.intro @Cg (And.intro @uT (And.intro @tK (And.intro @xa (And.intro @vD (And.intro @B4 (And.intro @HF (And.intro @F7 (And.intro @FF (And.intro @GB (And.intro @Gt (And.intro @EW (And.intro @JM (And.intro @Jj (And.intro @KA (And.intro @Kg (And.intro @KI (And.intro @J5 (And.intro @JY (And.intro @Fx (And.intro @Fg (And.intro @Hv (And.intro @Af (And.intro @Bx (And.intro @D6 (And.intro @Em (And.intro @xn (And.intro @xd (And.intro @wC (And.intro @v8 (And.intro @wh (And.intro @tj (And.intro @wi (And.intro @wo (And.intro @wG (And.intro @xw (And.intro @wg (And.intro @tN (And.intro @zR (And.intro @BH (And.intro @z7 (And.intro @z8 (And.intro @AK (And.intro @HH (And.intro @Ao (And.intro @vu (And.intro @sS (And.intro @vW (And.intro @Cc (And.intro @Ii (And.intro @EU (And.intro @FP (And.intro @Ei (And.intro @Ht (And.intro @Eg (And.intro @Ay (And.intro @B9 (And.intro @Ce (And.intro @BG (And.intro @Cl (And.intro @zm (And.intro @AO (And.intro @zi (And.intro @D4 (And.intro @Eh (And.intro @DA (And.intro @GN (And.intro @Kz (And.intro @Kh (And.intro @Kx (And.intro @Ky (And.intro @Kn (And.intro @HA (And.intro @G9 (And.intro @Dw (And.intro @Ic (And.intro @Fk (And.intro @DD (And.intro @Ec (And.intro @wu (And.intro @F3 (And.intro @J0 (And.intro @JL (And.intro @E7 (And.intro @Ih (@Ie)))))))))))))))))))))))))))))))))))))))))))))))))))))))))))))))))))))))))))))))))))))))):=And.intro @vV (And.intro @Aj (And.intro @Cg (And.intro @uT (And.intro @tK (And.intro @xa (And.intro @vD (And.intro @B4 (And.intro @HF (And.intro @F7 (And.intro @FF (And.intro @GB (And.intro @Gt (And.intro @EW (And.intro @JM (And.intro @Jj (And.intro @KA (And.intro @Kg (And.intro @KI (And.intro @J5 (And.intro @JY (And.intro @Fx (And.intro @Fg (And.intro @Hv (And.intro @Af (And.intro @Bx (And.intro @D6 (And.intro @Em (And.intro @xn (And.intro @xd (And.intro @wC (And.intro @v8 (And.intro @wh (And.intro @tj (And.intro @wi (And.intro @wo (And.intro @wG (And.intro @xw (And.intro @wg (And.intro @tN (And.intro @zR (And.intro @BH (And.intro @z7 (And.intro @z8 (And.intro @AK (And.intro @HH (And.intro @Ao (And.intro @vu (And.intro @sS (And.intro @vW (And.intro @Cc (And.intro @Ii (And.intro @EU (And.intro @FP (And.intro @Ei (And.intro @Ht (And.intro @Eg (And.intro @Ay (And.intro @B9 (And.intro @Ce (And.intro @BG (And.intro @Cl (And.intro @zm (And.intro @AO (And.intro @zi (And.intro @D4 (And.intro @Eh (And.intro @DA (And.intro @GN (And.intro @Kz (And.intro @Kh (And.intro @Kx (And.intro @Ky (And.intro @Kn (And.intro @HA (And.intro @G9 (And.intro @Dw (And.intro @Ic (And.intro @Fk (And.intro @DD (And.intro @Ec (And.intro @wu (And.intro @F3 (And.intro @J0 (And.intro @JL (And.intro @E7 (And.intro @Ih (@Ie)))))))))))))))))))))))))))))))))))))))))))))))))))))))))))))))))))))))))))))))))))))))
end
end Go.AM
namespace Go.AM
section
variable {P:Program} {Θ:gQ} {Γ:aZ}
theorem an.val{f:FuncId}{args:List AV}{s:St}{K:AV→St→Prop}{V:AV}(ho:args.all bF=true)(t:T P Γ f args s.heap fun v h'=>v=V∧h'=s.heap)(hk:K V s):an P Γ f args s K:=
  an.ref ho t (by rintro v h' ⟨rfl,rfl⟩;exact hk)
theorem BU(s:St):List.map (s.eval Γ) []=[]:=rfl
theorem Bu(s:St)(x:X)(xs:List X):List.map (s.eval Γ) (x::xs)=s.eval Γ x::List.map (s.eval Γ) xs:=rfl
theorem vZ(xs:List AV):[]++xs=xs:=rfl
theorem vF(x:AV)(xs ys:List AV):(x::xs)++ys=x::(xs++ys):=rfl
def xk(xs:List AV):AV→AR|.fn g first caps=>.call g (first++(xs++caps))|_=>.stuck
theorem wa(gl:Bool)(s:St)(f:X)(xs:List X):step Γ gl s (.call f xs)=xk (xs.map (s.eval Γ)) (s.eval Γ f):=by
  simp only[step,xk];cases s.eval Γ f<;>simp
theorem sL(xs:List AV)(g:FuncId)(first caps:List AV):xk xs (.fn g first caps)=.call g (first++(xs++caps)):=rfl
theorem zS(gl:Bool)(s:St)(f:FuncId)(a b:List X):step Γ gl s (.mkf f a b)=.val (.fn f (a.map (s.eval Γ)) (b.map (s.eval Γ))) s:=rfl
theorem eG(e:List AV)(l:List (List AV))(h:AH)(cs:List AV):(St.mk e l h).push cs=⟨e,l,h++[some (0,cs)]⟩:=rfl
def DL(s:St)(sz bytes:Nat)(z:List AV):AV→AV→AR
  | .int _ ln,.int _ cp=>.uP (uB s sz bytes z ln cp)
  | _,_=>.stuck
theorem Co(gl:Bool)(s:St)(sz bytes:Nat)(z:List AV)(l c:X):step Γ gl s (.mks sz bytes z l c)=DL s sz bytes z (s.eval Γ l) (s.eval Γ c):=by
  simp only[step];unfold DL;rfl
def pF(s:St)(n:Nat)(a:AV):Option (List AV)→AR
  | some cs=>if cs.length=n then .vP (s.store a cs)else .stuck
  | none=>.stuck
theorem tL(gl:Bool)(s:St)(n:Nat)(a v:X):step Γ gl s (.store n a v)=pF s n (s.eval Γ a) (cellsOf (s.eval Γ v)):=by
  simp only[step,pF];cases cellsOf (s.eval Γ v)<;>rfl
theorem GJ(s:St)(a x:AV):pF s 1 a (some [x])=.vP (s.store a [x]):=rfl
theorem Hl(k:IntKind)(n:Int):cellsOf (.int k n)=some [.int k n]:=rfl
theorem Ft(b:Bool):cellsOf (.bool b)=some [.bool b]:=rfl
theorem GC(b:ByteArray):cellsOf (.str b)=some [.str b]:=rfl
theorem DK(cs:List AV):cellsOf (.agg cs)=some cs:=rfl
theorem BO(β:Bool)(sz:Nat)(ex:Bool)(xs:List (List AV)):cellsOf (.vs β sz ex xs)=some [.vs β sz ex xs]:=rfl
theorem A9(b g off len cap sz:Nat)(ex:Bool):cellsOf (.gs b g off len cap sz ex)=some [.gs b g off len cap sz ex]:=rfl
theorem Ax:cellsOf .nilp=some [.nilp]:=rfl
theorem zD:cellsOf .nils=some [.nils]:=rfl
theorem bx(h:AH)(x:Nat×List AV):aS (h++[some x]) h.length=some x:=by simp[aS]
theorem iq{e:List AV}{l:List (List AV)}{h:AH}{cs vs:List AV}{off:Nat}(h1:off+vs.length≤cs.length)(h2:vs.all aK=true):
    (St.mk e l (h++[some (0,cs)])).store (.gp h.length 0 off) vs=some ⟨e,l,h++[some (0,over cs off vs)]⟩:=by
  simp only[St.store,bx,Option.bind_some,if_true,if_pos h1,h2]
  simp
theorem sw{e:List AV}{l:List (List AV)}{h:AH}{cs:List AV}{off n:Nat}:(St.mk e l (h++[some (0,cs)])).cells (.gp h.length 0 off) n=sub cs off n:=by
  simp only[St.cells,bx,Option.bind_some,if_true]
theorem fW{b g off len cap sz:Nat}{ex:Bool}{k:Nat}(hk:k<len):bN sz (.gs b g off len cap sz ex) (k:Int)=some (.gp b g (off+k*sz)):=by
  have:((k:Int)<(len:Int)):=by omega
  simp[bN,this]
def vR(gl:Bool)(s:St):Option (List AV)→AR
  | some cs=>if gl=true then (if cs.all aK then .val (.gp s.heap.length 0 0) (s.push cs)else .stuck)else .val (.lp s.loc.length 0) { s with loc:=s.loc++[cs] }
  | none=>.stuck
theorem zp(gl:Bool)(s:St)(x:X):step Γ gl s (.box x)=vR gl s (cellsOf (s.eval Γ x)):=by
  simp only[step,vR];cases cellsOf (s.eval Γ x)<;>rfl
theorem Er(s:St)(cs:List AV)(h:cs.all aK=true):vR true s (some cs)=.val (.gp s.heap.length 0 0) (s.push cs):=by simp[vR,h]
theorem BL(e:List AV)(l:List (List AV))(h:AH)(cs:List AV):vR false ⟨e,l,h⟩ (some cs)=.val (.lp l.length 0) ⟨e,l++[cs],h⟩:=rfl
def p9(gl:Bool)(s:St)(z:List AV):AR:=if gl=true then (if z.all aK then .val (.gp s.heap.length 0 0) (s.push z)else .stuck)else .val (.lp s.loc.length 0) { s with loc:=s.loc++[z] }
theorem sO(gl:Bool)(s:St)(z:List AV):step Γ gl s (.alloc z)=p9 gl s z:=rfl
theorem pD(s:St)(z:List AV)(h:z.all aK=true):p9 true s z=.val (.gp s.heap.length 0 0) (s.push z):=by simp[p9,h]
theorem tS(e:List AV)(l:List (List AV))(h:AH)(z:List AV):p9 false ⟨e,l,h⟩ z=.val (.lp l.length 0) ⟨e,l++[z],h⟩:=rfl
theorem GW(a:Nat)(gl:Gl)(d:Nat)(g:Option (Nat×Bool))(i:I):fC (a::gl) ⟨some d,g,i⟩=(d == a || fC gl ⟨some d,g,i⟩):=by simp only[fC,O.dst,List.contains_cons]
theorem A4(f:FuncId)(a b:List AV):cellsOf (.fn f a b)=some [.fn f a b]:=rfl
theorem Im(b:Bool):bF (.bool b)=true:=rfl
theorem DR(k:IntKind)(n:Int):bF (.int k n)=true:=rfl
theorem Gs(b:ByteArray):bF (.str b)=true:=rfl
theorem Bb:bF .nilp=true:=rfl
theorem Bl:bF .nils=true:=rfl
theorem B3:bF .nilf=true:=rfl
theorem zl(b g off:Nat):bF (.gp b g off)=true:=rfl
theorem zq(β:Bool)(cs:List AV):bF (.ip β cs)=true:=rfl
theorem Ac(b g off len cap sz:Nat)(ex:Bool):bF (.gs b g off len cap sz ex)=true:=rfl
theorem AW(β:Bool)(sz:Nat)(ex:Bool)(xs:List (List AV)):bF (.vs β sz ex xs)=true:=rfl
theorem E4(cs:List AV):bF (.agg cs)=cs.all aK:=rfl
theorem El(f:FuncId)(a b:List AV):bF (.fn f a b)=(a.all bW && b.all bW):=rfl
theorem yz(b:Bool):aK (.bool b)=true:=rfl
theorem yT(k:IntKind)(n:Int):aK (.int k n)=true:=rfl
theorem yE(b:ByteArray):aK (.str b)=true:=rfl
theorem Al:aK .nilp=true:=rfl
theorem zT:aK .nils=true:=rfl
theorem Aq(b g off:Nat):aK (.gp b g off)=true:=rfl
theorem Ca(β:Bool)(cs:List AV):aK (.ip β cs)=true:=rfl
theorem zL(b g off len cap sz:Nat)(ex:Bool):aK (.gs b g off len cap sz ex)=true:=rfl
theorem BB(β:Bool)(sz:Nat)(ex:Bool)(xs:List (List AV)):aK (.vs β sz ex xs)=true:=rfl
theorem Bp(b g off:Nat):bW (.gp b g off)=true:=rfl
theorem Dv(k:IntKind)(n:Int):bW (.int k n)=true:=rfl
theorem zg(β:Bool)(cs:List AV):bW (.ip β cs)=true:=rfl
theorem AB(p:AV→Bool):List.all [] p=true:=rfl
theorem B0(p:AV→Bool)(x:AV)(xs:List AV):List.all (x::xs) p=(p x && List.all xs p):=rfl
theorem T.drop{f:FuncId}{args:List AV}{h:AH}{Q K:AV→AH→Prop}(t:T P Γ f args h Q)(hq:∀v h',Q v h'→∃new,h'=h++new∧AU h.length v∧K v h):T P Γ f args h K:=by
  refine t.freeze fun v h' q=>?_
  obtain⟨new,rfl,h1,h2⟩:=hq v h' q
  exact⟨h,new,v,rfl,rfl,fun b g cs hb=>.inl hb,.same v h1,h2⟩
def oI:List O→Nat→Option O
  | [],_=>none
  | o::_,0=>some o
  | _::os,n+1=>oI os n
theorem zK:∀(os:List O) (j:Nat),os[j]? = oI os j
  | [],_=>by simp[oI]
  | o::os,0=>by simp[oI]
  | o::os,n+1=>by simpa[oI]using zK os n
def xB(P:Program)(Γ:aZ)(gl:Gl)(os:List O)(K:St→Prop)(s:St):Option O→Prop
  | some o=>rX P Γ K o.dst s (guardOf os s o.gd) (step Γ (fC gl o) s o.op)
  | none=>K s
def wD(s:St)(K:St→Prop)(s':St):Prop:=Mem s s'∧K s'
theorem Ea(o:O)(os:List O):oI (o::os) 0=some o:=rfl
theorem E5(o:O)(os:List O)(n:Nat):oI (o::os) (n+1)=oI os n:=rfl
theorem Bk(gl:Gl)(os:List O)(K:St→Prop)(s:St)(o:O):xB P Γ gl os K s (some o)=rX P Γ K o.dst s (guardOf os s o.gd) (step Γ (fC gl o) s o.op):=rfl
theorem gG(gl:Gl)(os:List O)(i:Nat)(K:St→Prop)(s:St):lP P Γ gl os i K s=xB P Γ gl os K s (oI os i):=by
  unfold lP
  rw[zK]
  cases oI os i with
  | none=>rfl
  | some o=>
    simp only[xB,rX]
    cases guardOf os s o.gd with
    | none=>rfl
    | some t=>cases step Γ (fC gl o) s o.op<;>rfl
theorem Gu(gl:Gl)(os:List O)(K:St→Prop)(s:St):bK P Γ gl os K 0 .done s=K s:=rfl
theorem J9(gl:Gl)(os:List O)(K:St→Prop)(n i:Nat)(d:D)(s:St):bK P Γ gl os K (n+1) (.q i d) s=xB P Γ gl os (bK P Γ gl os K n d) s (oI os i):=by
  rw[←gG];rfl
theorem D5(gl:Gl)(os:List O)(K:St→Prop)(n i:Nat)(d:D)(s:St):bK P Γ gl os K (n+1) (.all [(i,d)]) s=xB P Γ gl os (wD s (bK P Γ gl os K n d)) s (oI os i):=by
  rw[←gG];simp only[bK,kK,and_true];rfl
theorem Gc(gl:Gl)(os:List O)(K:St→Prop)(n i:Nat)(d:D)(p:Nat×D)(ds:List (Nat×D))(s:St):bK P Γ gl os K (n+1) (.all ((i,d)::p::ds)) s =
    (xB P Γ gl os (wD s (bK P Γ gl os K n d)) s (oI os i)∧bK P Γ gl os K (n+1) (.all (p::ds)) s):=by
  rw[←gG];simp only[bK,kK];rfl
def xM(rs:List Nat)(s:St)(K:St→Prop)(s':St):Prop:=ij rs s s'∧K s'
theorem Aa(gl:Gl)(os:List O)(K:St→Prop)(n i:Nat)(rs:List Nat)(d:D)(s:St):bK P Γ gl os K (n+1) (.mix [(i,some rs,d)]) s=xB P Γ gl os (xM rs s (bK P Γ gl os K n d)) s (oI os i):=by
  rw[←gG];simp only[bK,jd,and_true];rfl
theorem Cm(gl:Gl)(os:List O)(K:St→Prop)(n i:Nat)(d:D)(s:St):bK P Γ gl os K (n+1) (.mix [(i,none,d)]) s=xB P Γ gl os (wD s (bK P Γ gl os K n d)) s (oI os i):=by
  rw[←gG];simp only[bK,jd,and_true];rfl
theorem Ba(gl:Gl)(os:List O)(K:St→Prop)(n i:Nat)(rs:List Nat)(d:D)(p:Nat×Option (List Nat)×D)(ds:List (Nat×Option (List Nat)×D))(s:St):bK P Γ gl os K (n+1) (.mix ((i,some rs,d)::p::ds)) s =
    (xB P Γ gl os (xM rs s (bK P Γ gl os K n d)) s (oI os i)∧bK P Γ gl os K (n+1) (.mix (p::ds)) s):=by
  rw[←gG];simp only[bK,jd];rfl
theorem As(gl:Gl)(os:List O)(K:St→Prop)(n i:Nat)(d:D)(p:Nat×Option (List Nat)×D)(ds:List (Nat×Option (List Nat)×D))(s:St):bK P Γ gl os K (n+1) (.mix ((i,none,d)::p::ds)) s =
    (xB P Γ gl os (wD s (bK P Γ gl os K n d)) s (oI os i)∧bK P Γ gl os K (n+1) (.mix (p::ds)) s):=by
  rw[←gG];simp only[bK,jd];rfl
theorem G5(gl:Gl)(os:List O)(K:St→Prop)(n i:Nat)(rs:List Nat)(d:D)(s:St):bK P Γ gl os K (n+1) (.st i rs d) s=xB P Γ gl os (xM rs s (bK P Γ gl os K n d)) s (oI os i):=by
  rw[←gG];rfl
theorem KG(rs:List Nat)(s:St)(K:St→Prop)(s':St):xM rs s K s'=(ij rs s s'∧K s'):=rfl
theorem qP{rs:List Nat}{s s':St}(m:Mem s s'):ij rs s s':=fun r _ n cs h=>n8 m h
theorem Kc(s:St)(K:St→Prop)(s':St):wD s K s'=(Mem s s'∧K s'):=rfl
theorem JN(e e':List AV)(l:List (List AV))(h:AH):Mem ⟨e,l,h⟩ ⟨e',l,h⟩=True:=eq_true (Mem.env _ _)
theorem JQ(e e':List AV)(l:List (List AV))(h n:AH):Mem ⟨e,l,h⟩ ⟨e',l,h++n⟩=True:=eq_true (Mem.heap ⟨e,l,h⟩ _ _)
theorem Kr(e e':List AV)(l l':List (List AV))(h:AH):Mem ⟨e,l,h⟩ ⟨e',l++l',h⟩=True:=eq_true (Mem.loc ⟨e,l,h⟩ _ _)
theorem Gd(rs:List Nat)(e e':List AV)(l:List (List AV))(h:AH):ij rs ⟨e,l,h⟩ ⟨e',l,h⟩=True:=eq_true (qP (Mem.env _ _))
theorem Fo(rs:List Nat)(e e':List AV)(l:List (List AV))(h n:AH):ij rs ⟨e,l,h⟩ ⟨e',l,h++n⟩=True:=eq_true (qP (Mem.heap ⟨e,l,h⟩ _ _))
theorem vi(s:SH)(sz:Nat)(xs:List (List AV)):bF (sl s sz xs)=true:=by cases s<;>rfl
theorem sT(s:SH)(sz:Nat)(xs:List (List AV)):aK (sl s sz xs)=true:=by cases s<;>rfl
theorem zF(s:SH)(sz:Nat)(xs:List (List AV)):cellsOf (sl s sz xs)=some [sl s sz xs]:=by cases s<;>rfl
theorem wN{n:Nat}(h:n<9223372036854775807):IntKind.i64.wrap ((n:Int)+1)=((n+1:Nat):Int):=by
  rw[aY (by omega) (by omega)];rfl
end
theorem EO:type_of% (And.intro @Im (And.intro @DR (And.intro @Gs (And.intro @Bb (And.intro @Bl (And.intro @B3 (And.intro @zl (And.intro @zq (And.intro @Ac (And.intro @AW (And.intro @E4 (And.intro @El (And.intro @yz (And.intro @yT (And.intro @yE (And.intro @Al (And.intro @zT (And.intro @Aq (And.intro @Ca (And.intro @zL (And.intro @BB (And.intro @Bp (And.intro @Dv (And.intro @zg (And.intro @AB (And.intro @B0 (And.intro @vi (And.intro @sT (And.intro @Bool.and_true (@Bool.true_and)))))))))))))))))))))))))))))):=And.intro @Im (And.intro @DR (And.intro @Gs (And.intro @Bb (And.intro @Bl (And.intro @B3 (And.intro @zl (And.intro @zq (And.intro @Ac (And.intro @AW (And.intro @E4 (And.intro @El (And.intro @yz (And.intro @yT (And.intro @yE (And.intro @Al (And.intro @zT (And.intro @Aq (And.intro @Ca (And.intro @zL (And.intro @BB (And.intro @Bp (And.intro @Dv (And.intro @zg (And.intro @AB (And.intro @B0 (And.intro @vi (And.intro @sT (And.intro @Bool.and_true (@Bool.true_and)))))))))))))))))))))))))))))
theorem EL:type_of% (And.intro @Aa (And.intro @Cm (And.intro @Ba (And.intro @As (And.intro @Gd (And.intro @Fo (And.intro @BU (And.intro @Bu (And.intro @vZ (And.intro @vF (And.intro @wa (And.intro @sL (And.intro @zS (And.intro @eG (And.intro @Co (And.intro @tL (And.intro @GJ (And.intro @zp (And.intro @BL (And.intro @sO (And.intro @tS (And.intro @GW (And.intro @A4 (And.intro @zF (And.intro @Bool.true_or (And.intro @Bool.false_or (And.intro @Hl (And.intro @Ft (And.intro @GC (And.intro @DK (And.intro @BO (And.intro @A9 (And.intro @Ax (And.intro @zD (And.intro @Gu (And.intro @J9 (And.intro @D5 (And.intro @Gc (And.intro @G5 (And.intro @KG (And.intro @Bk (And.intro @Ea (And.intro @E5 (And.intro @Kc (And.intro @JN (And.intro @JQ (And.intro @Kr (And.intro @true_and (@and_true))))))))))))))))))))))))))))))))))))))))))))))))):=And.intro @Aa (And.intro @Cm (And.intro @Ba (And.intro @As (And.intro @Gd (And.intro @Fo (And.intro @BU (And.intro @Bu (And.intro @vZ (And.intro @vF (And.intro @wa (And.intro @sL (And.intro @zS (And.intro @eG (And.intro @Co (And.intro @tL (And.intro @GJ (And.intro @zp (And.intro @BL (And.intro @sO (And.intro @tS (And.intro @GW (And.intro @A4 (And.intro @zF (And.intro @Bool.true_or (And.intro @Bool.false_or (And.intro @Hl (And.intro @Ft (And.intro @GC (And.intro @DK (And.intro @BO (And.intro @A9 (And.intro @Ax (And.intro @zD (And.intro @Gu (And.intro @J9 (And.intro @D5 (And.intro @Gc (And.intro @G5 (And.intro @KG (And.intro @Bk (And.intro @Ea (And.intro @E5 (And.intro @Kc (And.intro @JN (And.intro @JQ (And.intro @Kr (And.intro @true_and (@and_true))))))))))))))))))))))))))))))))))))))))))))))))
end Go.AM
namespace Go.AM
section
variable {P:Program} {Θ:gQ} {Γ:aZ}
def IJ(agg:Bool)(x:List AV):AV:=if agg=true then .agg x else x.getD 0 .any
def Cz(agg:Bool)(sz:Nat)(x:List AV):Prop:=x.length=sz∧(agg=true∨sz=1)
theorem yj{agg:Bool}{sz:Nat}{x:List AV}(h:Cz agg sz x):(sub x 0 sz).bind (dm agg)=some (IJ agg x):=by
  obtain⟨h1,h2⟩:=h
  simp only[sub,Nat.zero_add,List.drop_zero]
  rw[if_pos (by omega),List.take_of_length_le (by omega)]
  rcases h2 with rfl|rfl
  · rfl
  · cases agg
    · match x,h1 with
      | [a],_=>rfl
    · rfl
def mf(sz:Nat)(agg:Bool):C:=.seq (.reg [⟨(some 4),none,.mov (.c (.int .i64 0))⟩]) (.seq (.seq (.reg [⟨(some 6),none,.mov (.t 0)⟩,
  ⟨(some 7),none,.len false (.t 6)⟩,
  ⟨(some 8),none,.mov (.c (.int .i64 0))⟩]) (.block 0 (.loop (.seq (.reg [⟨(some 9),none,.bin .lss (.num) (.t 8) (.t 7)⟩]) (.seq (.cond (.t 9) (.skip) (.exit 0)) (.seq (.block 1 (.seq (.reg [⟨(some 10),none,.mov (.t 8)⟩,
  ⟨(some 5),none,.mov (.t 10)⟩]) (.seq (.reg [⟨(some 11),none,.mov (.t 1)⟩,
  ⟨(some 12),none,.mov (.t 0)⟩,
  ⟨(some 13),none,.mov (.t 5)⟩,
  ⟨(some 14),none,.idxs sz (.t 12) (.t 13)⟩,
  ⟨(some 15),none,.load sz agg (.t 14)⟩,
  ⟨(some 16),none,.call (.t 11) [.t 15]⟩]) (.cond (.t 16) (.seq (.reg [⟨(some 17),none,.mov (.t 5)⟩,
  ⟨(some 4),none,.mov (.t 17)⟩]) (.ret)) (.skip))))) (.reg [⟨(some 18),none,.bin .add (.num) (.t 8) (.c (.int .i64 1))⟩,
  ⟨(some 8),none,.mov (.t 18)⟩]))))))) (.seq (.reg [⟨(some 4),none,.mov (.c (.int .i64 (-1)))⟩]) (.ret)))
abbrev xg(P:Program)(Θ:gQ)(Γ:aZ)(f:FuncId)(c:C)(rs:List RS)(us:List AV):Prop:=
  ∀{a0 a1:AV} {h:AH} {K:AV→AH→Prop},TC P Θ Γ c (bl rs K) ⟨a0::a1::us,[],h⟩→T P Γ f [a0,a1] h K
end
end Go.AM
namespace Go.AM
open Go.ChangeShapes
inductive dr where
  | b (x:Bool)|i (k:IntKind) (n:Int)|s (x:ByteArray)|sl (h:SH) (sz:Nat) (xs:List dr)|st (fs:List dr)
  deriving Inhabited
mutual
def dr.cells:dr→List AV
  | .b x=>[.bool x]
  | .i k n=>[.int k n]
  | .s x=>[.str x]
  | .sl h sz xs=>[AM.sl h sz (dr.mu xs)]
  | .st fs=>dr.ll fs
def dr.mu:List dr→List (List AV)
  | []=>[]
  | d::r=>d.cells::dr.mu r
def dr.ll:List dr→List AV
  | []=>[]
  | d::r=>d.cells++dr.ll r
end
theorem dr.nO:∀(xs:List dr),dr.mu xs=xs.map dr.cells
  | []=>rfl
  | d::r=>by simp[dr.mu,dr.nO r]
section
variable (P:Program)
def lb:Nat→List Field→Nat→Bool
  | o,[],n=>o == n
  | o,f::r,n=>f.offset == o && lb (o+P.cellsOf f.type) r n
def cU:Nat→TypeId→Bool
  | 0,_=>false
  | n+1,t=>match P.underlying t with
    | some .bool|some (.int _)|some .string=>P.cellsOf t == 1
    | some (.slice e)=>P.cellsOf t == 1 && decide (0<P.cellsOf e) && cU n e
    | some (.struct fs)=>lb P 0 fs.toList (P.cellsOf t) && fs.toList.all fun f=>cU n f.type
    | _=>false
def dr.ok:Nat→TypeId→dr→Prop
  | 0,_,_=>False
  | n+1,t,d=>match P.underlying t,d with
    | some .bool,.b _=>True
    | some (.int k),.i k' m=>k'=k∧(Lit.int k m).wf=true
    | some .string,.s x=>x.size≤maxLen
    | some (.slice e),.sl h sz xs=>sz=P.cellsOf e∧h=.v false false∧xs.length≤maxLen∧∀x∈xs,dr.ok n e x
    | some (.struct fs),.st ds=>ds.length=fs.size∧∀(i:Nat) f d,fs[i]? = some f→ds[i]? = some d→dr.ok n f.type d
    | _,_=>False
end
section
variable {P:Program} {Γ:aZ} {H:Type} {enc:TypeId×Value→H} {W:World}
def bB(W:World):bO where
  m:=fun _ _=>none
  imm:=fun β c=>if β=true then none else match W.heap[c]? with|some (.cells arr _ _)=>some arr|_=>none
theorem C2(W:World):RH (bB W) [] [] [] W:=by
  refine⟨fun b g cs h=>by simp at h,fun i cs h=>by simp at h,rfl,fun i j c h=>by simp at h,fun b g cs _ _ _ _ _ _ _ _ h=>by simp at h,fun b g cs _ _ _ _ h=>by simp at h,?_,fun _ _ _ _ _ h=>by simp at h,fun _ _ _ _ _ _ _ _ _ h=>by simp at h,fun b g c o n h=>by simp[bB]at h⟩
  intro β c arr h
  simp only[bB]at h
  split at h
  · cases h
  · split at h
    · rename_i arr' T fr hh
      injection h with h
      subst h
      exact⟨T,fr,hh⟩
    · cases h
theorem qW{a:Addr}{v:Value}(h:W.cell? a=some v):a.spot=none∧∃arr,(bB W).imm false a.block=some arr∧arr[a.off]? = some v:=by
  unfold World.cell? at h
  split at h
  · rename_i c T fr hh
    split at h
    · cases h
    · rename_i hs
      refine⟨by cases hsp:a.spot<;>simp[hsp]at hs ⊢,c,?_,h⟩
      simp[bB,hh]
  · cases h
theorem tO(a:Addr)(n:Nat):(a.add n).off=a.off+n:=by unfold Addr.add;split<;>simp_all
theorem nY(a:Addr)(n:Nat):(a.add n).block=a.block:=by unfold Addr.add;split<;>simp_all
theorem hG{ρ ls}{x:AV}{v:Value}(h:RV ρ ls x v):cV ρ ls [x] [v]:=
  ⟨rfl,fun i y hy=>by
    cases i with
    | zero=>simp at hy;subst hy;exact h
    | succ i=>simp at hy⟩
theorem wP:∀(n:Nat) (t:TypeId) (fuel:Nat) (cs:List Value) (x:DataW H×List MemPlace),cU P n t=true→DataW.trod enc P W 0 (fun _=>true) true fuel t cs=some x→
    ∃d,dr.ok P n t d∧cV (bB W) [] d.cells cs∧cs.length=P.cellsOf t:=by
  intro n
  induction n with
  | zero=>intro t fuel cs x h;simp[cU]at h
  | succ n ih=>
    intro t fuel cs x hp h
    simp only[cU]at hp
    split at hp
    · rename_i hu
      obtain⟨b,rfl,_⟩:=DataW.trod_bool hu h
      exact⟨.b b,by simp[dr.ok,hu],hG (.bool _ _),by simpa using(by simpa using hp:P.cellsOf t=1).symm⟩
    · rename_i k hu
      obtain⟨m,rfl,_,hw⟩:=DataW.trod_int hu h
      exact⟨.i k m,by simp[dr.ok,hu,hw],hG (.int _ _ _),by simpa using(by simpa using hp:P.cellsOf t=1).symm⟩
    · rename_i hu
      obtain⟨b,rfl,_,hs⟩:=DataW.trod_string hu h
      exact⟨.s b,by simp[dr.ok,hu,hs],hG (.str _ _),by simpa using(by simpa using hp:P.cellsOf t=1).symm⟩
    · rename_i e hu
      simp only[Bool.and_eq_true,beq_iff_eq,decide_eq_true_eq]at hp
      obtain⟨⟨hp1,hp2⟩,hp3⟩:=hp
      rcases DataW.trod_slice hu h with⟨rfl,_⟩|⟨a,len,cap,elems,rest,m,_,rfl,_,_,hl,hm,hlen,hel,_,_⟩
      · exact⟨.sl (.v false false) (P.cellsOf e) [],by simp[dr.ok,hu],hG (.vsn _ _ _ _),by simp[hp1]⟩
      · have each:∀i,i<len→∃d cs',dr.ok P n e d∧W.cells? 0 (a.add (i*P.cellsOf e)) (P.cellsOf e)=some cs'∧cV (bB W) [] d.cells cs'∧cs'.length=P.cellsOf e:=by
          intro i hi
          have:=hel i hi
          rw[List.getElem?_eq_getElem (by omega),Option.bind_eq_some_iff]at this
          obtain⟨cs',h1,h2⟩:=this
          obtain⟨d,g1,g2,g3⟩:=ih e m cs' _ hp3 h2
          exact⟨d,cs',g1,h1,g2,g3⟩
        let ds:List dr:=(List.range len).attach.map fun i=>(each i.1 (List.mem_range.1 i.2)).choose
        have hds:ds.length=len:=by simp[ds]
        have aS:∀(i:Nat) (d:dr),ds[i]? = some d→i<len∧∃cs',dr.ok P n e d∧W.cells? 0 (a.add (i*P.cellsOf e)) (P.cellsOf e)=some cs'∧cV (bB W) [] d.cells cs'∧cs'.length=P.cellsOf e:=by
          intro i d hd
          have hi:i<len:=by have:=ar hd;omega
          refine⟨hi,?_⟩
          have:d=(each i hi).choose:=by
            simp only[ds,List.getElem?_map,Option.map_eq_some_iff]at hd
            obtain⟨x,hx,rfl⟩:=hd
            have hx':x.1=i:=by
              have:=congrArg (Option.map Subtype.val) hx
              simp[hi]at this
              exact this.symm
            obtain⟨y,hy⟩:=x
            subst hx'
            rfl
          rw[this]
          exact(each i hi).choose_spec
        refine⟨.sl (.v false false) (P.cellsOf e) ds,?_,hG ?_,by simp[hp1]⟩
        · simp only[dr.ok,hu]
          refine⟨trivial,trivial,by omega,fun d hd=>?_⟩
          obtain⟨i,hi⟩:=List.mem_iff_getElem?.1 hd
          obtain⟨_,_,h1,_⟩:=aS i d hi
          exact h1
        · simp only[sl,dr.nO]
          rcases Nat.eq_zero_or_pos len with h0|hpos
          · have:ds=[]:=List.length_eq_zero_iff.1 (by omega)
            rw[this,h0]
            exact .vs0 _ false _ false a cap (by simp)
          · have look:∀(i:Nat) (l:List AV),(ds.map dr.cells)[i]? = some l→i<len∧l.length=P.cellsOf e∧∀(j:Nat) (x:AV),l[j]? = some x→∃v,W.cell? ((a.add (i*P.cellsOf e)).add j)=some v∧RV (bB W) [] x v:=by
              intro i l hl'
              rw[List.getElem?_map,Option.map_eq_some_iff]at hl'
              obtain⟨d,hd,rfl⟩:=hl'
              obtain⟨hi,cs',_,g2,g3,g4⟩:=aS i d hd
              obtain⟨_,c2,c3⟩:=World.cells?_some g2
              refine⟨hi,by rw[g3.1];exact g4,fun j x hx=>?_⟩
              have hj:j<P.cellsOf e:=by have:=ar hx;have:=g3.1;omega
              have hr:=g3.2 j x hx
              rw[List.getD_eq_getElem?_getD,List.getElem?_eq_getElem (by omega)]at hr
              have hjl:j<cs'.length:=by omega
              exact⟨cs'[j],by rw[c3 j hj,List.getElem?_eq_getElem hjl],by simpa using hr⟩
            have hspot:a.spot=none:=by
              have hd0:ds[0]? = some ds[0]:=List.getElem?_eq_getElem (by omega)
              obtain⟨_,cs',_,g2,_,g4⟩:=aS 0 _ hd0
              obtain⟨_,c2,c3⟩:=World.cells?_some g2
              have:=c3 0 hp2
              rw[List.getElem?_eq_getElem (by omega)]at this
              have:=(qW this).1
              simpa[Addr.add]using this
            obtain⟨ab,ao,asp⟩:=a
            simp only at hspot
            subst hspot
            have hcell:∀(i j:Nat) (v:Value),W.cell? ((Addr.add ⟨ab,ao,none⟩ (i*P.cellsOf e)).add j)=some v→∃arr,(bB W).imm false ab=some arr∧arr[ao+(i*P.cellsOf e+j)]? = some v:=by
              intro i j v hv
              obtain⟨_,arr,h1,h2⟩:=qW hv
              rw[nY,nY]at h1
              rw[tO,tO,Nat.add_assoc]at h2
              exact⟨arr,h1,h2⟩
            have hv:∀i j,∃v,∀l x,(ds.map dr.cells)[i]? = some l→l[j]? = some x→W.cell? ((Addr.add ⟨ab,ao,none⟩ (i*P.cellsOf e)).add j)=some v∧RV (bB W) [] x v:=by
              intro i j
              by_cases hx:∃l x,(ds.map dr.cells)[i]? = some l∧l[j]? = some x
              · obtain⟨l,x,h1,h2⟩:=hx
                obtain⟨_,_,h3⟩:=look i l h1
                obtain⟨v,h4,h5⟩:=h3 j x h2
                refine⟨v,fun l' x' e1 e2=>?_⟩
                rw[h1]at e1;injection e1 with e1;subst e1
                rw[h2]at e2;injection e2 with e2;subst e2
                exact⟨h4,h5⟩
              · exact⟨default,fun l x e1 e2=>absurd ⟨l,x,e1,e2⟩ hx⟩
            have:=RV.vs (ρ:=bB W) [] false (P.cellsOf e) false (ds.map dr.cells) ab ao cap (fun i j=>(hv i j).choose) (by simp[hds];omega) (by simp) (fun i l h=>(look i l h).2.1)
              (fun i l h1 j x h2=>by
                have:=((hv i j).choose_spec l x h1 h2).1
                exact hcell i j _ this)
              (fun i l h1 j x h2=>((hv i j).choose_spec l x h1 h2).2)
            simpa[hds]using this
    · rename_i fs hu
      simp only[Bool.and_eq_true]at hp
      obtain⟨hc,ha⟩:=hp
      obtain⟨xs,m,_,_,hl,hlen,hf⟩:=DataW.trod_struct hu h
      have key:∀(l:List Field) (o k:Nat),lb P o l (P.cellsOf t)=true→(∀f∈l,cU P n f.type=true)→(∀(i:Nat) (f:Field),l[i]? = some f→∃y,DataW.trod enc P W 0 (fun _=>true) true m f.type ((cs.drop f.offset).take (P.cellsOf f.type))=some y)→
          ∃ds:List dr,ds.length=l.length∧(∀(i:Nat) f d,l[i]? = some f→ds[i]? = some d→dr.ok P n f.type d)∧cV (bB W) [] (dr.ll ds) (cs.drop o):=by
        intro l
        induction l with
        | nil=>
          intro o k h1 _ _
          simp only[lb,beq_iff_eq]at h1
          exact⟨[],rfl,fun i f d h=>by simp at h,by rw[List.drop_of_length_le (by omega)];exact⟨rfl,fun i x h=>by simp[dr.ll]at h⟩⟩
        | cons f l ihl=>
          intro o k h1 h2 h3
          simp only[lb,Bool.and_eq_true,beq_iff_eq]at h1
          obtain⟨rfl,h1⟩:=h1
          obtain⟨y,hy⟩:=h3 0 f rfl
          obtain⟨d,d1,d2,d3⟩:=ih f.type m _ y (h2 f (by simp)) hy
          obtain⟨ds,e1,e2,e3⟩:=ihl _ k h1 (fun g hg=>h2 g (by simp[hg])) (fun i g hg=>h3 (i+1) g (by simpa using hg))
          refine⟨d::ds,by simp[e1],fun i g d' hg hd=>?_,?_⟩
          · cases i with
            | zero=>simp at hg hd;subst hg;subst hd;exact d1
            | succ i=>exact e2 i g d' (by simpa using hg) (by simpa using hd)
          · have:cs.drop f.offset=(cs.drop f.offset).take (P.cellsOf f.type)++cs.drop (f.offset+P.cellsOf f.type):=by
              conv=>lhs;rw[←List.take_append_drop (P.cellsOf f.type) (cs.drop f.offset)]
              rw[List.drop_drop]
            rw[this]
            exact d2.append e3
      obtain⟨ds,e1,e2,e3⟩:=key fs.toList 0 0 hc (fun f hf'=>List.all_eq_true.1 ha f hf') (fun i f hf'=>by
        have:=hf i f (by simpa using hf')
        have hi:i<xs.length:=by have:=ar hf';simp at this;omega
        exact⟨xs[i],by rw[this,List.getElem?_eq_getElem hi]⟩)
      refine⟨.st ds,?_,by simpa[dr.cells]using e3,hl⟩
      simp only[dr.ok,hu]
      exact⟨by simpa using e1,fun i f d h1 h2=>e2 i f d (by simpa using h1) h2⟩
    · cases hp
theorem gK{α β:Type}{f g:α→Option β}:∀{l:List α} {r:List β},(∀x∈l,∀y∈r,f x=some y→g x=some y)→l.mapM f=some r→l.mapM g=some r
  | [],r,_,h=>by simpa using h
  | a::l,r,hi,h=>by
    rw[List.mapM_cons]at h ⊢
    cases ha:f a with
    | none=>simp[ha]at h
    | some b=>
      cases hl:l.mapM f with
      | none=>simp[ha,hl]at h
      | some bs=>
        simp[ha,hl]at h
        subst h
        have h1:=hi a (by simp) b (by simp) ha
        have h2:=gK (l:=l) (r:=bs) (g:=g) (fun x hx y hy=>hi x (by simp[hx]) y (by simp[hy])) hl
        simp[h1,h2]
variable {W':World}
theorem wb(hk:∀c,c<W.heap.size→W'.heap[c]? = W.heap[c]?){a:Addr}{v:Value}(h:W.cell? a=some v):W'.cell? a=some v:=by
  unfold World.cell? at h ⊢
  have:a.block<W.heap.size:=by
    rcases Nat.lt_or_ge a.block W.heap.size with h'|h'
    · exact h'
    · rw[Array.getElem?_eq_none h']at h;cases h
  rw[hk _ this]
  exact h
theorem uN(hk:∀c,c<W.heap.size→W'.heap[c]? = W.heap[c]?){a:Addr}{n:Nat}{cs:List Value}(h:W.cells? 0 a n=some cs):W'.cells? 0 a n=some cs:=by
  unfold World.cells? at h ⊢
  simp only[Nat.zero_le,if_true]at h ⊢
  exact gK (fun x _ y _ e=>wb hk e) h
theorem sD(hk:∀c,c<W.heap.size→W'.heap[c]? = W.heap[c]?):∀(n:Nat) (t:TypeId) (fuel:Nat) (cs:List Value) (x:DataW H×List MemPlace),cU P n t=true→DataW.trod enc P W 0 (fun _=>true) true fuel t cs=some x→
    ∀sp:Nat→Bool,(∀p∈x.2,sp p.block=true)→DataW.trod enc P W' 0 sp true fuel t cs=some x:=by
  intro n
  induction n with
  | zero=>intro t fuel cs x h;simp[cU]at h
  | succ n ih=>
    intro t fuel cs x hp h sp hsp
    cases fuel with
    | zero=>simp[DataW.trod]at h
    | succ m=>
    simp only[cU]at hp
    split at hp
    · rename_i hu
      obtain⟨b,rfl,rfl⟩:=DataW.trod_bool hu h
      simp[DataW.trod,hu]
    · rename_i k hu
      obtain⟨z,rfl,rfl,hw⟩:=DataW.trod_int hu h
      simp[DataW.trod,hu,hw]
    · rename_i hu
      obtain⟨b,rfl,rfl,hs⟩:=DataW.trod_string hu h
      simp[DataW.trod,hu,hs]
    · rename_i e hu
      simp only[Bool.and_eq_true,beq_iff_eq,decide_eq_true_eq]at hp
      obtain⟨⟨hp1,hp2⟩,hp3⟩:=hp
      rcases DataW.trod_slice hu h with⟨rfl,rfl⟩|⟨a,len,cap,_,_,_,_,rfl,_,_,hl,hm,_⟩
      · simp[DataW.trod,hu]
      · unfold DataW.trod at h ⊢
        rw[hu]at h ⊢
        simp only[Nat.zero_le,hl,hm,and_self,if_true]at h ⊢
        rw[Option.bind_eq_some_iff]at h ⊢
        obtain⟨elems,he,h⟩:=h
        rw[Option.map_eq_some_iff]at h
        obtain⟨rest,hr,rfl⟩:=h
        have sub:∀y∈elems++rest,∀p∈y.2,sp p.block=true:=fun y hy p hp=>hsp p (by
          refine List.mem_append_right _ (List.mem_flatMap.2 ⟨y,hy,hp⟩))
        have imp:∀(i:Nat) (y:DataW H×List MemPlace),y∈elems++rest→((W.cells? 0 (a.add (i*P.cellsOf e)) (P.cellsOf e)).bind (DataW.trod enc P W 0 (fun _=>true) true m e))=some y→
            ((W'.cells? 0 (a.add (i*P.cellsOf e)) (P.cellsOf e)).bind (DataW.trod enc P W' 0 sp true m e))=some y:=by
          intro i y hy h
          rw[Option.bind_eq_some_iff]at h ⊢
          obtain⟨cs',h1,h2⟩:=h
          exact⟨cs',uN hk h1,ih e m cs' y hp3 h2 sp (sub y hy)⟩
        refine⟨elems,gK (fun i _ y hy=>imp i y (by simp[hy])) he,?_⟩
        rw[Option.map_eq_some_iff]
        refine⟨rest,?_,rfl⟩
        have hr':(List.range (cap-len)).mapM (fun j=>(W'.cells? 0 (a.add ((len+j)*P.cellsOf e)) (P.cellsOf e)).bind (DataW.trod enc P W' 0 sp true m e))=some rest:=
          gK (fun i _ y hy=>imp (len+i) y (by simp[hy])) hr
        cases hs:sp a.block with
        | true=>simpa using hr'
        | false=>
          have hz:rest=[]:=by
            cases rest with
            | nil=>rfl
            | cons y r=>
              have hpos:0<(elems.length+(y::r).length)*P.cellsOf e:=Nat.mul_pos (by simp only[List.length_cons];omega) hp2
              have:=hsp (.cell a.block (a.off+0)) (by
                simp only[List.mem_append]
                refine .inl ?_
                simp only[MemPlace.row,List.mem_map,List.mem_range]
                exact⟨0,hpos,rfl⟩)
              simp[MemPlace.block,hs]at this
          subst hz
          simp
    · rename_i fs hu
      simp only[Bool.and_eq_true]at hp
      obtain⟨hc,ha⟩:=hp
      obtain⟨xs0,m',hm',_,hl,_,_⟩:=DataW.trod_struct hu h
      unfold DataW.trod at h ⊢
      rw[hu]at h ⊢
      simp only[hl,if_true]at h ⊢
      rw[Option.map_eq_some_iff]at h ⊢
      obtain⟨xs,hx,rfl⟩:=h
      refine⟨xs,gK (fun f hf y hy e=>ih f.type m _ y (List.all_eq_true.1 ha f hf) e sp fun p hp=>hsp p ?_) hx,rfl⟩
      simp only[List.mem_flatMap]
      exact⟨y,hy,hp⟩
    · cases hp
def dr.av:dr→AV
  | .b x=>.bool x
  | .i k n=>.int k n
  | .s x=>.str x
  | .sl h sz xs=>AM.sl h sz (dr.mu xs)
  | .st fs=>.agg (dr.ll fs)
theorem u6{n:Nat}{t:TypeId}{v:Value}{r:Reach}{base:Nat}{x:DataW H}{ps:List MemPlace}(hp:cU P n t=true)(hv:Value.okWide P W r base t v)(h:DataW.Trod enc P W 0 (fun _=>true) true t v x ps):
    ∃d,dr.ok P n t d∧RV (bB W) [] d.av v:=by
  obtain⟨fuel,h⟩:=h
  obtain⟨d,h1,h2,h3⟩:=wP n t fuel _ _ hp h
  refine⟨d,h1,?_⟩
  cases n with
  | zero=>simp[cU]at hp
  | succ n=>
  have one:∀(y:AV),d.cells=[y]→(∀cs,v≠.agg cs)→RV (bB W) [] y v:=by
    intro y hy hn
    have hc:v.cells.toList=[v]:=by
      cases v<;>first|rfl|exact absurd rfl (hn _)
    rw[hy,hc]at h2
    simpa using h2.2 0 y rfl
  unfold Value.okWide at hv
  simp only[dr.ok]at h1
  simp only[cU]at hp
  split at hp
  · rename_i hu
    rw[hu]at h1 hv
    cases d<;>simp at h1
    exact one _ rfl (fun cs e=>by subst e;simp[Cell.okWide,Cell.ok,hu]at hv)
  · rename_i k hu
    rw[hu]at h1 hv
    cases d<;>simp at h1
    exact one _ rfl (fun cs e=>by subst e;simp[Cell.okWide,Cell.ok,hu]at hv)
  · rename_i hu
    rw[hu]at h1 hv
    cases d<;>simp at h1
    exact one _ rfl (fun cs e=>by subst e;simp[Cell.okWide,Cell.ok,hu]at hv)
  · rename_i e hu
    rw[hu]at h1 hv
    cases d<;>simp at h1
    exact one _ rfl (fun cs e=>by subst e;simp[Cell.okWide,Cell.ok,hu]at hv)
  · rename_i fs hu
    rw[hu]at h1 hv
    cases d<;>simp at h1
    obtain⟨cs,rfl,_⟩:=hv
    simp only[dr.cells,Value.cells]at h2
    exact .agg _ _ _ (by simpa using h2.1) (fun i x hx=>by have:=h2.2 i x hx;rwa[bd]at this)
  · cases hp
def dJ(P:Program)(n:Nat):List TypeId→List dr→Prop
  | [],[]=>True
  | t::ts,d::ds=>dr.ok P n t d∧dJ P n ts ds
  | _,_=>False
theorem nD{n:Nat}{r:Reach}{base:Nat}:∀{ts:List TypeId} {vs:List Value} {xs:List (DataW H)} {ps:List MemPlace},(∀t∈ts,cU P n t=true)→(∀(j:Nat) t v,ts[j]? = some t→vs[j]? = some v→Value.okWide P W r base t v)→
    DataW.TrodAll enc P W 0 (fun _=>true) true ts vs xs ps→∃ds,dJ P n ts ds∧cV (bB W) [] (ds.map dr.av) vs∧xs.length=ts.length∧
      ∀{W':World},(∀c,c<W.heap.size→W'.heap[c]? = W.heap[c]?)→∀sp:Nat→Bool,(∀p∈ps,sp p.block=true)→DataW.TrodAll enc P W' 0 sp true ts vs xs ps
  | [],vs,xs,ps,hp,hv,h=>by
    obtain⟨rfl,rfl,rfl⟩:=trodAll_nil h
    exact⟨[],trivial,⟨rfl,fun i x hx=>by simp at hx⟩,rfl,fun _ _ _=>rfl⟩
  | t::ts,vs,xs,ps,hp,hv,h=>by
    obtain⟨v,vs',x,xs',p,q,rfl,rfl,rfl,h1,h2⟩:=trodAll_cons h
    obtain⟨d,d1,d2⟩:=u6 (hp t (by simp)) (hv 0 t v rfl rfl) h1
    obtain⟨ds,e1,e2,e3,e4⟩:=nD (fun t ht=>hp t (by simp[ht])) (fun j t v a b=>hv (j+1) t v (by simpa using a) (by simpa using b)) h2
    refine⟨d::ds,⟨d1,e1⟩,(hG d2).append e2,by simp[e3],fun hk sp hsp=>?_⟩
    obtain⟨fuel,hf⟩:=h1
    exact⟨p,q,⟨fuel,sD hk n t fuel _ _ (hp t (by simp)) hf sp fun y hy=>hsp y (by simp[hy])⟩,e4 hk sp (fun y hy=>hsp y (by simp[hy])),rfl⟩
theorem dJ.one{n:Nat}{t0:TypeId}{ds:List dr}(h:dJ P n [t0] ds):∃d0,ds=[d0]∧dr.ok P n t0 d0:=
  match ds,h with|[d0],h=>⟨d0,rfl,h.1⟩
theorem dJ.cons{n:Nat}{t0:TypeId}{ts:List TypeId}{ds:List dr}(h:dJ P n (t0::ts) ds):∃d0 ds',ds=d0::ds'∧dr.ok P n t0 d0∧dJ P n ts ds':=
  match ds,h with|d0::ds',h=>⟨d0,ds',rfl,h.1,h.2⟩
theorem dJ.nil{n:Nat}{ds:List dr}(h:dJ P n [] ds):ds=[]:=match ds,h with|[],_=>rfl
end
end Go.AM
namespace Go.AM
end Go.AM
