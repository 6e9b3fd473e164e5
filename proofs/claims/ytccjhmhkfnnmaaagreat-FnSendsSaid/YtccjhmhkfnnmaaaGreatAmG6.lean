import Derived.Test.YtccjhmhkfnnmaaaGreatAmG5
import Derived.Laws.StructEq
set_option linter.unusedVariables false
set_option linter.unusedSimpArgs false
namespace Go.AM
section
variable {P:Program}
def pH:TK→Bool|.int _|.bool|.str=>true|_=>false
def kK(P:Program):List Field→Nat→List TK→Bool
  | [],_,[]=>true
  | f::fs,o,k::ks=>f.name != "_" && f.offset == o && (match P.underlying f.type with|some d=>ml d == k && pH k|none=>false) && kK P fs (o+1) ks
  | _,_,_=>false
def xL(P:Program)(t:TypeId)(ks:List TK):Bool:=
  !P.eqGuardType P.depth t && !P.stoodInHeld t && match P.underlying t with|some (.struct fs)=>kK P fs.toList 0 ks|_=>false
theorem vm{t:TypeId}{d:TypeDesc}(hu:P.underlying t=some d)(hb:pH (ml d)=true){xs:Array Value}{off:Nat}{v:Value}(hx:xs[off]? = some v)(w:World):(part t xs off).run P w=.ok v w:=by
  cases d<;>simp[ml,pH]at hb<;>simp[part,isAgg,run_underlying hu,hx]
theorem rF(d:Nat){w:World}{ρ:fI}{ls:List Nat}{xs ys:Array Value}:∀(fs:List Field) (o:Nat) (ks:List TK) (as bs:List AV) (r:Bool),kK P fs o ks=true→
    (∀(i:Nat) (x:AV),as[i]? = some x→∃y,xs[o+i]? = some y∧RV ρ ls x y)→(∀(i:Nat) (x:AV),bs[i]? = some x→∃y,ys[o+i]? = some y∧RV ρ ls x y)→oV ks as bs=some r→
    (Op.eqFields (d+1) xs ys fs).run P w=.ok r w
  | [],o,[],as,bs,r,hf,ha,hb,h=>by
    match as,bs,h with
    | [],[],h=>simp[oV]at h;subst h;simp[Op.eqFields]
  | f::fs,o,k::ks,as,bs,r,hf,ha,hb,h=>by
    match as,bs,h with
    | a::as,b::bs,h=>
      simp only[oV]at h
      obtain⟨e,h1,h2⟩:=jj h
      rw[Option.map_eq_some_iff]at h2
      obtain⟨e',h2,rfl⟩:=h2
      simp only[kK,Bool.and_eq_true,bne_iff_ne,ne_eq,beq_iff_eq]at hf
      obtain⟨⟨⟨f1,f2⟩,f3⟩,f4⟩:=hf
      obtain⟨y1,p1,r1⟩:=ha 0 a rfl
      obtain⟨y2,p2,r2⟩:=hb 0 b rfl
      have ih:=rF d (w:=w) fs (o+1) ks as bs e' f4 (fun i x hx=>by have:=ha (i+1) x (by simpa using hx);rwa[show o+(i+1)=o+1+i by omega]at this)
        (fun i x hx=>by have:=hb (i+1) x (by simpa using hx);rwa[show o+(i+1)=o+1+i by omega]at this) h2
      split at f3
      · rename_i d' hu
        simp only[Bool.and_eq_true,beq_iff_eq]at f3
        obtain⟨f3,f5⟩:=f3
        have f6:pH (ml d')=true:=by rw[f3];exact f5
        have q1:=vm hu f6 (xs:=xs) (off:=o) (v:=y1) (by simpa using p1) w
        have q2:=vm hu f6 (xs:=ys) (off:=o) (v:=y2) (by simpa using p2) w
        have q3:(Op.equalIn (d+1) f.type y1 y2).run P w=.ok e w:=by
          rw[←f3]at h1
          cases d'<;>simp[ml,pH]at f6<;>simp only[ml]at h1<;>unfold qK at h1<;>(split at h1)<;>(try (cases h1;done))<;>rename_i h3<;>(try (cases h3;done))
          all_goals skip
          · injection h1 with h1;cases r1;cases r2;subst h1
            exact run_equalIn_bool' w d f.type _ _ hu
          · split at h1
            · rename_i hk
              injection h1 with h1;cases r1;cases r2;subst h1;subst hk
              exact run_equalIn_int w d f.type _ _ _ _ hu
            · cases h1
          · injection h1 with h1;cases r1;cases r2;subst h1
            exact run_equalIn_string w d f.type _ _ hu
        simp only[Op.eqFields,f1,ne_eq,not_false_eq_true,if_true,f2,Sem.run_bind,q1,q2,q3,Result.andThen_ok]
        cases e
        · simp
        · simpa using ih
      · cases f3
  | [],_,_::_,_,_,_,hf,_,_,_=>by simp[kK]at hf
  | _::_,_,[],_,_,_,hf,_,_,_=>by simp[kK]at hf
theorem AJ{t:TypeId}{ks:List TK}(h:xL P t ks=true):sh P t ks:=by
  simp only[xL,Bool.and_eq_true,Bool.not_eq_true']at h
  obtain⟨⟨h1,h2⟩,h3⟩:=h
  refine⟨h1,fun w ρ ls as bs xs ys r ra rb ha=>?_⟩
  cases hu:P.underlying t with
  | none=>simp[hu]at h3
  | some d=>
    cases d<;>simp[hu]at h3
    rename_i fs
    have hfs:P.fieldsOf t=fs:=by simp[Program.fieldsOf,hu]
    unfold Op.equal
    have look:∀{as:List AV} {xs:Array Value},gy ρ ls as xs.toList→∀(i:Nat) (x:AV),as[i]? = some x→∃y,xs[0+i]? = some y∧RV ρ ls x y:=by
      intro as xs ra i x hx
      have hl:=ay hx
      have h:=ra.2 i x hx
      have hl':i<xs.toList.length:=by rw[←ra.1];exact hl
      have hl'':i<xs.size:=by simpa using hl'
      refine⟨xs[i],by simp[hl''],?_⟩
      simpa[List.getD_eq_getElem?_getD,hl'']using h
    rw[show Op.maxDepth=(Op.maxDepth-1)+1 from rfl,run_equalIn_struct w _ t xs ys (by rw[hfs];exact hu) h2,hfs]
    rw[show Op.maxDepth-1=(Op.maxDepth-2)+1 from rfl]
    exact rF _ fs.toList 0 ks as bs r h3 (look ra) (look rb) ha
def ED(L:List (Nat×TI)):lF:=fun t=>(L.find? fun p=>p.1 == t).map (·.2)
theorem Et{L:List (Nat×TI)}(h1:(L.map fun p=>KR P p.1)=L.map fun p=>some (p.2.kd,p.2.size,p.2.bytes,p.2.zero,true))
    (h2:(L.all fun p=>match p.2.plainEq with|none=>true|some ks=>xL P p.1 ks)=true):dS P (ED L):=by
  intro t ti h
  unfold ED at h
  rw[Option.map_eq_some_iff]at h
  obtain⟨p,hp,rfl⟩:=h
  have hm:=List.mem_of_find?_eq_some hp
  have ht:p.1=t:=by simpa using List.find?_some hp
  subst ht
  refine⟨List.map_inj_left.1 h1 p hm,fun ks hk=>?_⟩
  have:=List.all_eq_true.1 h2 p hm
  simp only[hk]at this
  exact AJ this
def aF(f:Func):Code:=match f.body with|some c=>c|none=>.skip
abbrev u:AV:=.tup []
end
end Go.AM
namespace Go.AM
section
variable {P:Program} {Θ:lF} {Γ:bY}
theorem DK(a:AV)(l:List AV)(d:AV):(a::l).getD 0 d=a:=rfl
theorem D2(a b:AV)(l:List AV)(d:AV):(a::b::l).getD 1 d=b:=rfl
theorem Es(a b c:AV)(l:List AV)(d:AV):(a::b::c::l).getD 2 d=c:=rfl
theorem E1(a b c e:AV)(l:List AV)(d:AV):(a::b::c::e::l).getD 3 d=e:=rfl
theorem D3(a0 a1 a2 a3:AV)(l:List AV)(n:Nat)(d:AV):(a0::a1::a2::a3::l).getD (n+4) d=l.getD n d:=rfl
theorem BD(a0 a1 a2 a3 a4 a5 a6 a7 a8 a9 b0 b1 b2 b3 b4 b5:AV)(l:List AV)(n:Nat)(d:AV):
    (a0::a1::a2::a3::a4::a5::a6::a7::a8::a9::b0::b1::b2::b3::b4::b5::l).getD (n+16) d=l.getD n d:=rfl
theorem EC(a:AV)(l:List AV)(v:AV):(a::l).set 0 v=v::l:=rfl
theorem Fm(a b:AV)(l:List AV)(v:AV):(a::b::l).set 1 v=a::v::l:=rfl
theorem EI(a b c:AV)(l:List AV)(v:AV):(a::b::c::l).set 2 v=a::b::v::l:=rfl
theorem EM(a b c e:AV)(l:List AV)(v:AV):(a::b::c::e::l).set 3 v=a::b::c::v::l:=rfl
theorem Ft(a0 a1 a2 a3:AV)(l:List AV)(n:Nat)(v:AV):(a0::a1::a2::a3::l).set (n+4) v=a0::a1::a2::a3::l.set n v:=rfl
theorem Bj(a0 a1 a2 a3 a4 a5 a6 a7 a8 a9 b0 b1 b2 b3 b4 b5:AV)(l:List AV)(n:Nat)(v:AV):
    (a0::a1::a2::a3::a4::a5::a6::a7::a8::a9::b0::b1::b2::b3::b4::b5::l).set (n+16) v=a0::a1::a2::a3::a4::a5::a6::a7::a8::a9::b0::b1::b2::b3::b4::b5::l.set n v:=rfl
theorem NV(e:List AV)(l:List (List AV))(h:AH)(n:Nat):(St.mk e l h).eval Γ (.t n)=e.getD n .any:=rfl
theorem OP(s:St)(v:AV):s.eval Γ (.c v)=v:=rfl
theorem G4(e:List AV)(l:List (List AV))(h:AH)(d:Nat)(v:AV):(St.mk e l h).put (some d) v=⟨e.set d v,l,h⟩:=rfl
theorem Im(s:St)(v:AV):s.put none v=s:=rfl
theorem Qd:∀(gl:Gl) (g:Option (Nat×Bool)) (i:I),kj gl ⟨none,g,i⟩=false:=fun _ _ _=>rfl
theorem Nd(d:Nat)(g:Option (Nat×Bool))(i:I):kj [] ⟨some d,g,i⟩=false:=rfl
def AA(P:Program)(Γ:bY)(K:St→Prop)(dst:Option Nat)(s:St)(g:Option Bool)(r:AR):Prop:=
  match g with
  | none=>False
  | some t=>br t (match r with|.val v s'=>K (s'.put dst v)|.call f args=>al P Γ f args s fun v s'=>K (s'.put dst v)|.stuck=>False) (K (s.put dst (.tup [])))
theorem Tu(K:St→Prop)(d:Option Nat)(s:St)(v:AV)(s':St):AA P Γ K d s (some true) (.val v s')=K (s'.put d v):=propext (xS _ _)
theorem Uk(K:St→Prop)(d:Option Nat)(s:St)(f:FuncId)(args:List AV):AA P Γ K d s (some true) (.call f args)=al P Γ f args s fun v s'=>K (s'.put d v):=propext (xS _ _)
theorem TR(K:St→Prop)(d:Option Nat)(s:St)(r:AR):AA P Γ K d s (some false) r=K (s.put d (.tup [])):=propext (Al _ _)
theorem lC{K:St→Prop}{d:Option Nat}{s:St}{t:Bool}{r:AR}(h1:t=true→AA P Γ K d s (some true) r)(h2:t=false→AA P Γ K d s (some false) r):AA P Γ K d s (some t) r:=by
  cases t
  · exact h2 rfl
  · exact h1 rfl
theorem Uf(gl:Gl)(os:List O)(K:St→Prop)(s:St):dE P Γ gl os [] K s=K s:=rfl
theorem Tg(gl:Gl)(os:List O)(o:O)(r:List O)(K:St→Prop)(s:St):dE P Γ gl os (o::r) K s=AA P Γ (dE P Γ gl os r K) o.dst s (guardOf os s o.gd) (step Γ (kj gl o) s o.op):=by
  simp only[dE,AA]
  cases guardOf os s o.gd with
  | none=>rfl
  | some t=>cases step Γ (kj gl o) s o.op<;>rfl
theorem PB(os:List O)(s:St):guardOf os s none=some true:=rfl
def ug:List O→Nat→Option Nat
  | [],_=>none
  | o::_,0=>o.dst
  | _::os,n+1=>ug os n
theorem Bt:∀(os:List O) (j:Nat),(os[j]?).bind (·.dst)=ug os j
  | [],_=>by simp[ug]
  | o::os,0=>by simp[ug]
  | o::os,n+1=>by simpa[ug]using Bt os n
def Ax(w:Bool):AV→Option Bool|.bool b=>some (b == w)|.any|.opq _=>none|_=>some false
def Si(e:List AV)(w:Bool):Option Nat→Option Bool|none=>some false|some d=>Ax w (e.getD d (.tup []))
theorem OJ(d:Option Nat)(g:Option (Nat×Bool))(i:I)(os:List O):ug (⟨d,g,i⟩::os) 0=d:=rfl
theorem M3(o:O)(os:List O)(n:Nat):ug (o::os) (n+1)=ug os n:=rfl
theorem Rc(os:List O)(e:List AV)(l:List (List AV))(h:AH)(j:Nat)(w:Bool):guardOf os ⟨e,l,h⟩ (some (j,w))=Si e w (ug os j):=by
  simp only[guardOf,Bt,Si]
  cases ug os j with
  | none=>rfl
  | some d=>
    simp only[List.getD_eq_getElem?_getD]
    cases e[d]? with
    | none=>rfl
    | some v=>cases v<;>rfl
theorem M1(e:List AV)(w:Bool)(d:Nat):Si e w (some d)=Ax w (e.getD d (.tup [])):=rfl
theorem MX(b:Bool):Ax true (.bool b)=some b:=by simp[Ax]
theorem LS(b:Bool):Ax false (.bool b)=some (!b):=by simp[Ax]
theorem Rk(w:Bool):Ax w (.tup [])=some false:=rfl
theorem mQ{K:St→Prop}{d:Option Nat}{s:St}{t:Bool}{r:AR}(h1:t=true→AA P Γ K d s (some false) r)(h2:t=false→AA P Γ K d s (some true) r):AA P Γ K d s (some (!t)) r:=by
  cases t
  · exact h2 rfl
  · exact h1 rfl
def zY(A B:St→Prop)(s:St):AV→Prop
  | .bool t=>br t (A s) (B s)
  | _=>False
theorem Uh(A B:St→Prop)(s:St):zY A B s (.bool true)=A s:=propext (xS _ _)
theorem Tk(A B:St→Prop)(s:St):zY A B s (.bool false)=B s:=propext (Al _ _)
theorem bP{A B:St→Prop}{s:St}{t:Bool}(h1:t=true→A s)(h2:t=false→B s):zY A B s (.bool t):=⟨h1,h2⟩
theorem Dr(gl:Gl)(Q:AE→St→Prop)(s:St):aw P Θ Γ gl .skip Q s=Q .normal s:=rfl
theorem IV(gl:Gl)(os:List O)(Q:AE→St→Prop)(s:St):aw P Θ Γ gl (.reg os) Q s=dE P Γ gl os os (Q .normal) s:=rfl
theorem Hp(gl:Gl)(a b:C)(Q:AE→St→Prop)(s:St):aw P Θ Γ gl (.seq a b) Q s=aw P Θ Γ gl a (hB (aw P Θ Γ gl b Q) Q) s:=rfl
theorem DM(gl:Gl)(c:X)(a b:C)(Q:AE→St→Prop)(s:St):aw P Θ Γ gl (.cond c a b) Q s=zY (aw P Θ Γ gl a Q) (aw P Θ Γ gl b Q) s (s.eval Γ c):=by
  simp only[aw,zY];cases s.eval Γ c<;>rfl
theorem BE(gl:Gl)(id:Nat)(c:C)(Q:AE→St→Prop)(s:St):aw P Θ Γ gl (.block id c) Q s=aw P Θ Γ gl c (iZ id Q) s:=rfl
theorem CU(gl:Gl)(c:C)(Q:AE→St→Prop)(s:St):aw P Θ Γ gl (.loop c) Q s=TC P Θ Γ (.loop c) Q s:=rfl
theorem DV(gl:Gl)(id:Nat)(Q:AE→St→Prop)(s:St):aw P Θ Γ gl (.exit id) Q s=Q (.exit id) s:=rfl
theorem Jc(gl:Gl)(Q:AE→St→Prop)(s:St):aw P Θ Γ gl .ret Q s=Q .ret s:=rfl
theorem Qz(K:St→Prop)(Q:AE→St→Prop):hB K Q .normal=K:=rfl
theorem OX(K:St→Prop)(Q:AE→St→Prop)(id:Nat):hB K Q (.exit id)=Q (.exit id):=rfl
theorem Q8(K:St→Prop)(Q:AE→St→Prop):hB K Q .ret=Q .ret:=rfl
theorem NF(id:Nat)(Q:AE→St→Prop):iZ id Q .normal=Q .normal:=rfl
theorem P0(id:Nat)(Q:AE→St→Prop):iZ id Q .ret=Q .ret:=rfl
theorem P4(id:Nat)(Q:AE→St→Prop):iZ id Q (.exit id)=Q .normal:=by funext s;simp[iZ]
theorem ag(id i:Nat)(Q:AE→St→Prop)(h:(i == id)=false):iZ id Q (.exit i)=Q (.exit i):=by
  funext s;simp only[iZ];rw[if_neg (by simpa using h)]
def ke:Nat→Nat→D→Bool
  | 0,_,.done=>true
  | n+1,i,.q j d=>i == j && ke n (i+1) d
  | _,_,_=>false
def L5(os:List O)(af:List (List Nat)):Bool:=match sched os af os.length (List.replicate os.length false)with|some d=>ke os.length 0 d|none=>false
theorem zZ(gl:Gl)(os:List O)(K:St→Prop):∀(n i:Nat) (d:D) (s:St),i+n=os.length→ke n i d=true→bB P Γ gl os K n d s=dE P Γ gl os (os.drop i) K s
  | 0,i,.done,s,hi,_=>by rw[List.drop_of_length_le (by omega)];rfl
  | n+1,i,.q j d,s,hi,h=>by
    simp only[ke,Bool.and_eq_true,beq_iff_eq]at h
    obtain⟨rfl,h⟩:=h
    have hil:i<os.length:=by omega
    rw[List.drop_eq_getElem_cons hil,Tg]
    simp only[bB,sW,List.getElem?_eq_getElem hil,AA]
    cases guardOf os s os[i].gd with
    | none=>rfl
    | some t=>
      have:∀s,bB P Γ gl os K n d s=dE P Γ gl os (os.drop (i+1)) K s:=fun s=>zZ gl os K n (i+1) d s (by omega) h
      have e:bB P Γ gl os K n d=dE P Γ gl os (os.drop (i+1)) K:=funext this
      rw[e]
      simp only
      cases step Γ (kj gl os[i]) s os[i].op<;>rfl
  | n+1,_,.done,_,_,h=>by simp[ke]at h
  | n+1,_,.all _,_,_,h=>by simp[ke]at h
  | 0,_,.q _ _,_,_,h=>by simp[ke]at h
  | 0,_,.all _,_,_,h=>by simp[ke]at h
  | n+1,_,.st _ _ _,_,_,h=>by simp[ke]at h
  | 0,_,.st _ _ _,_,_,h=>by simp[ke]at h
theorem ta{os:List O}{af:List (List Nat)}(h:L5 os af=true)(gl:Gl)(Q:AE→St→Prop)(s:St):aw P Θ Γ gl (.regD os af) Q s=dE P Γ gl os os (Q .normal) s:=by
  unfold L5 at h
  simp only[aw]
  split at h
  · rename_i d hd
    rw[hd]
    exact zZ gl os _ os.length 0 d s (by omega) h
  · cases h
theorem de{os:List O}{af:List (List Nat)}{n:Nat}{d:D}(hn:os.length=n)(h:sched os af n (List.replicate n false)=some d)(gl:Gl)(Q:AE→St→Prop)(s:St):aw P Θ Γ gl (.regD os af) Q s=bB P Γ gl os (Q .normal) n d s:=by
  subst hn
  simp only[aw,h]
theorem p8(tab:dS P Θ)(hm:P.follows .mixedOrders=true)(gl:Gl):∀(c:C) (Q:AE→St→Prop) (s:St),aw P Θ Γ gl c Q s→pn P Θ Γ gl c Q s:=by
  intro c
  induction c with
  | skip=>exact fun _ _ h=>h
  | reg os=>exact fun _ _ h=>h
  | regD os af=>
    intro Q s h
    simp only[aw]at h
    split at h
    · rename_i d hd
      exact xR tab hm gl (sI _ _ d s (ph _ _) hd h)
    · exact h.elim
  | seq a b iha ihb=>
    intro Q s h
    exact kG a s (fun e s he=>by cases e<;>simp only[hB]at he ⊢<;>first|exact ihb Q s he|exact he) (iha _ s h)
  | cond c a b iha ihb=>
    intro Q s h
    simp only[aw,pn]at h ⊢
    split at h
    · rename_i t ht
      simp only[ht]
      exact⟨fun ht=>iha Q s (h.1 ht),fun ht=>ihb Q s (h.2 ht)⟩
    · exact h.elim
  | block id c ih=>exact fun Q s h=>ih _ s h
  | loop c=>exact fun _ _ h=>h
  | exit id=>exact fun _ _ h=>h
  | ret=>exact fun _ _ h=>h
theorem loop(tab:dS P Θ)(hm:P.follows .mixedOrders=true)(gl:Gl){c:C}{Q:AE→St→Prop}{s:St}{α:Type}(μ:α→Nat)(st:α→St)(x:α)(hs:Le s (st x))
    (round:∀x,aw P Θ Γ gl c (hB (fun s'=>∃y,μ y<μ x∧Le s' (st y)) Q) (st x)):TC P Θ Γ (.loop c) Q s:=
  TC.le hs (xU tab gl μ st (fun x=>p8 tab hm gl _ _ _ (round x)) x)
theorem et(tab:dS P Θ)(hm:P.follows .mixedOrders=true)(gl:Gl){c:C}{Q:AE→St→Prop}{s:St}{α:Type}(I:α→Prop)(μ:α→Nat)(st:α→St)(x:α)(hx:I x)(hs:Le s (st x))
    (round:∀x,I x→aw P Θ Γ gl c (hB (fun s'=>∃y,I y∧μ y<μ x∧Le s' (st y)) Q) (st x)):TC P Θ Γ (.loop c) Q s:=by
  refine TC.le hs (xU tab gl (fun y:{ y // I y }=>μ y.1) (fun y=>st y.1) (fun y=>kG _ _ ?_ (p8 tab hm gl _ _ _ (round y.1 y.2))) ⟨x,hx⟩)
  intro e s h
  cases e<;>simp only[hB]at h ⊢
  · obtain⟨y,h1,h2,h3⟩:=h
    exact⟨⟨y,h1⟩,h2,h3⟩
  · exact h
  · exact h
def DZ(K:AV→AH→Prop)(h:AH):Option AV→Prop
  | some v=>dJ v=true∧K v h
  | none=>False
theorem Un(rs:List RS)(K:AV→AH→Prop)(s:St):bk rs K .ret s=DZ K s.heap (s8 s rs):=by
  simp only[bk,DZ];cases s8 s rs<;>rfl
theorem T9(rs:List RS)(K:AV→AH→Prop)(s:St):bk rs K .normal s=DZ K s.heap (s8 s rs):=by
  simp only[bk,DZ];cases s8 s rs<;>rfl
theorem T6(K:AV→AH→Prop)(h:AH)(v:AV):DZ K h (some v)=(dJ v=true∧K v h):=rfl
theorem T7(s:St)(r:RS):s8 s [r]=pM s r:=rfl
theorem Lt(s:St)(r q:RS)(l:List RS):s8 s (r::q::l)=((r::q::l).mapM (pM s)).map .tup:=rfl
theorem O6(e:List AV)(l:List (List AV))(h:AH)(n:Nat):pM ⟨e,l,h⟩ (.t n)=some (e.getD n .any):=rfl
theorem LZ(e:List AV)(l:List (List AV))(h:AH)(a n:Nat)(agg:Bool):pM ⟨e,l,h⟩ (.cell a n agg)=((St.mk e l h).cells (e.getD a .any) n).bind (ic agg):=rfl
theorem JM(s:St)(v:AV):AR.iI s (some v)=.val v s:=rfl
theorem JI(s:St):AR.CN (some s)=.val (.tup []) s:=rfl
theorem KA(v:AV)(s:St):AR.CO (some (v,s))=.val v s:=rfl
theorem J1(gl:Bool)(s:St)(x:X):step Γ gl s (.mov x)=.val (s.eval Γ x) s:=rfl
theorem Is(gl:Bool)(s:St)(op:BinOp)(ek:EK)(x y:X):step Γ gl s (.bin op ek x y)=.iI s (cV op ek (s.eval Γ x) (s.eval Γ y)):=rfl
def D7(a b:AV)(s:St):AV→AR|.bool t=>.val (if t=true then a else b) s|_=>.stuck
theorem Ez(gl:Bool)(s:St)(c a b:X):step Γ gl s (.pick c a b)=D7 (s.eval Γ a) (s.eval Γ b) s (s.eval Γ c):=by simp only[step,D7];cases s.eval Γ c<;>rfl
theorem NQ(a b:AV)(s:St)(t:Bool):D7 a b s (.bool t)=.val (if t=true then a else b) s:=rfl
theorem PX(gl:Bool)(s:St)(op:UnOp)(x:X):step Γ gl s (.un op x)=.iI s (QT op (s.eval Γ x)):=rfl
def AF(b:Bool)(v:AV):Option AV:=(rV b v).map fun n:Nat=>.int .i64 (n:Int)
theorem IJ(gl:Bool)(s:St)(b:Bool)(x:X):step Γ gl s (.len b x)=.iI s (AF b (s.eval Γ x)):=by
  simp only[step,AF];cases rV b (s.eval Γ x)<;>rfl
def Eh(s:St)(sz:Nat)(x:AV):AV→AR|.int _ n=>.iI s (dV sz x n)|_=>.stuck
theorem D0(gl:Bool)(s:St)(sz:Nat)(x i:X):step Γ gl s (.idxs sz x i)=Eh s sz (s.eval Γ x) (s.eval Γ i):=by simp only[step,Eh];cases s.eval Γ i<;>rfl
theorem BG(s:St)(sz:Nat)(x:AV)(k:IntKind)(n:Int):Eh s sz x (.int k n)=.iI s (dV sz x n):=rfl
theorem Eu(gl:Bool)(s:St)(n:Nat)(b:Bool)(a:X):step Γ gl s (.load n b a)=.iI s ((s.cells (s.eval Γ a) n).bind (ic b)):=rfl
theorem Hr(gl:Bool)(s:St)(off:Nat)(x:X):step Γ gl s (.fld off x)=.iI s (kA off (s.eval Γ x)):=rfl
theorem Qx(k:IntKind)(a b:Int):cV .eql .num (.int k a) (.int k b)=some (.bool (a == b)):=by simp[cV,hJ]
theorem ON(k:IntKind)(a b:Int):cV .neq .num (.int k a) (.int k b)=some (.bool (a != b)):=by simp[cV,hJ]
theorem Ny(k:IntKind)(a b:Int):cV .lss .num (.int k a) (.int k b)=some (.bool (decide (a<b))):=by simp[cV,hJ]
theorem PT(k:IntKind)(a b:Int):cV .leq .num (.int k a) (.int k b)=some (.bool (decide (a≤b))):=by simp[cV,hJ]
theorem PK(k:IntKind)(a b:Int):cV .gtr .num (.int k a) (.int k b)=some (.bool (decide (b<a))):=by simp[cV,hJ]
theorem Of(k:IntKind)(a b:Int):cV .geq .num (.int k a) (.int k b)=some (.bool (decide (b≤a))):=by simp[cV,hJ]
theorem JP(k:IntKind)(a b:Int):cV .add .num (.int k a) (.int k b)=some (.int k (k.wrap (a+b))):=by simp[cV,hJ]
theorem Jy(k:IntKind)(a b:Int):cV .sub .num (.int k a) (.int k b)=some (.int k (k.wrap (a-b))):=by simp[cV,hJ]
theorem HT(k:IntKind)(a b:Int):cV .mul .num (.int k a) (.int k b)=some (.int k (k.wrap (a*b))):=by simp[cV,hJ]
theorem KB(a b:Bool):cV .neq .bool (.bool a) (.bool b)=some (.bool !(a == b)):=rfl
theorem I7(a b:Bool):cV .eql .bool (.bool a) (.bool b)=some (.bool (a == b)):=rfl
theorem Hl(a b:ByteArray):cV .neq .num (.str a) (.str b)=some (.bool !(a.toList == b.toList)):=rfl
theorem JW(a b:ByteArray):cV .eql .num (.str a) (.str b)=some (.bool (a.toList == b.toList)):=rfl
theorem JE(b:Bool):QT .not (.bool b)=some (.bool !b):=rfl
theorem Rn(off:Nat)(β:Bool)(cs:List AV):kA off (.ip β cs)=some (.ip β (cs.drop off)):=rfl
theorem Pv(off i o:Nat):kA off (.lp i o)=some (.lp i (o+off)):=rfl
theorem RA(off b g o:Nat):kA off (.gp b g o)=some (.gp b g (o+off)):=rfl
theorem Pg(s:St)(β:Bool)(cs:List AV)(n:Nat):s.cells (.ip β cs) n=sub cs 0 n:=rfl
theorem Tz(x:AV):ic false [x]=some x:=rfl
theorem TP(cs:List AV):ic true cs=some (.agg cs):=rfl
inductive SH where
  | nil|v (β ex:Bool)
  deriving DecidableEq,Inhabited
def SH.β:SH→Bool|.nil=>false|.v β _=>β
def sl(s:SH)(sz:Nat)(xs:List (List AV)):AV:=match s with|.nil=>.nils|.v β ex=>.vs β sz ex xs
def SH.ok(s:SH)(n:Nat):Prop:=s=.nil→n=0
theorem fo{n:Int}(h0:-9223372036854775808≤n)(h1:n<9223372036854775808):IntKind.i64.wrap n=n:=by
  simp[IntKind.wrap,IntKind.bits,IntKind.signed,IntKind.max,IntKind.min]
  omega
theorem Rs(x:AV):sub [x] 0 1=some [x]:=rfl
theorem EV:type_of% (And.intro @Dr (And.intro @IV (And.intro @Hp (And.intro @DM (And.intro @BE (And.intro @CU (And.intro @DV (And.intro @Jc (And.intro @Qz (And.intro @OX (And.intro @Q8 (And.intro @NF (And.intro @P0 (And.intro @P4 (And.intro @Uf (And.intro @Tg (And.intro @Tu (And.intro @Uk (And.intro @TR (And.intro @Uh (And.intro @Tk (And.intro @PB (And.intro @Qd (And.intro @Nd (And.intro @G4 (And.intro @Im (And.intro @NV (And.intro @OP (And.intro @DK (And.intro @D2 (And.intro @Es (And.intro @E1 (And.intro @D3 (And.intro @BD (And.intro @EC (And.intro @Fm (And.intro @EI (And.intro @EM (And.intro @Ft (And.intro @Bj (And.intro @JM (And.intro @JI (And.intro @KA (And.intro @J1 (And.intro @Is (And.intro @PX (And.intro @IJ (And.intro @D0 (And.intro @BG (And.intro @Eu (And.intro @Hr (And.intro @Qx (And.intro @ON (And.intro @Ny (And.intro @PT (And.intro @PK (And.intro @Of (And.intro @JP (And.intro @Jy (And.intro @HT (And.intro @JE (And.intro @KB (And.intro @I7 (And.intro @Hl (And.intro @JW (And.intro @Rn (And.intro @Pv (And.intro @RA (And.intro @Pg (And.intro @Tz (And.intro @TP (And.intro @Un (And.intro @T9 (And.intro @T6 (And.intro @Rc (And.intro @M1 (And.intro @OJ (And.intro @M3 (And.intro @MX (And.intro @LS (And.intro @Rk (And.intro @Ez (And.intro @NQ (And.intro @T7 (And.intro @Lt (And.intro @O6 (And.intro @LZ (@Rs)))))))))))))))))))))))))))))))))))))))))))))))))))))))))))))))))))))))))))))))))))))))):=And.intro @Dr (And.intro @IV (And.intro @Hp (And.intro @DM (And.intro @BE (And.intro @CU (And.intro @DV (And.intro @Jc (And.intro @Qz (And.intro @OX (And.intro @Q8 (And.intro @NF (And.intro @P0 (And.intro @P4 (And.intro @Uf (And.intro @Tg (And.intro @Tu (And.intro @Uk (And.intro @TR (And.intro @Uh (And.intro @Tk (And.intro @PB (And.intro @Qd (And.intro @Nd (And.intro @G4 (And.intro @Im (And.intro @NV (And.intro @OP (And.intro @DK (And.intro @D2 (And.intro @Es (And.intro @E1 (And.intro @D3 (And.intro @BD (And.intro @EC (And.intro @Fm (And.intro @EI (And.intro @EM (And.intro @Ft (And.intro @Bj (And.intro @JM (And.intro @JI (And.intro @KA (And.intro @J1 (And.intro @Is (And.intro @PX (And.intro @IJ (And.intro @D0 (And.intro @BG (And.intro @Eu (And.intro @Hr (And.intro @Qx (And.intro @ON (And.intro @Ny (And.intro @PT (And.intro @PK (And.intro @Of (And.intro @JP (And.intro @Jy (And.intro @HT (And.intro @JE (And.intro @KB (And.intro @I7 (And.intro @Hl (And.intro @JW (And.intro @Rn (And.intro @Pv (And.intro @RA (And.intro @Pg (And.intro @Tz (And.intro @TP (And.intro @Un (And.intro @T9 (And.intro @T6 (And.intro @Rc (And.intro @M1 (And.intro @OJ (And.intro @M3 (And.intro @MX (And.intro @LS (And.intro @Rk (And.intro @Ez (And.intro @NQ (And.intro @T7 (And.intro @Lt (And.intro @O6 (And.intro @LZ (@Rs)))))))))))))))))))))))))))))))))))))))))))))))))))))))))))))))))))))))))))))))))))))))
end
end Go.AM
namespace Go.AM
section
variable {P:Program} {Θ:lF} {Γ:bY}
theorem al.val{f:FuncId}{args:List AV}{s:St}{K:AV→St→Prop}{V:AV}(ho:args.all dY=true)(t:T P Γ f args s.heap fun v h'=>v=V∧h'=s.heap)(hk:K V s):al P Γ f args s K:=
  al.ref ho t (by rintro v h' ⟨rfl,rfl⟩;exact hk)
theorem GV(s:St):List.map (s.eval Γ) []=[]:=rfl
theorem Gy(s:St)(x:X)(xs:List X):List.map (s.eval Γ) (x::xs)=s.eval Γ x::List.map (s.eval Γ) xs:=rfl
theorem Jh(xs:List AV):[]++xs=xs:=rfl
theorem Ia(x:AV)(xs ys:List AV):(x::xs)++ys=x::(xs++ys):=rfl
def DE(xs:List AV):AV→AR|.fn g first caps=>.call g (first++(xs++caps))|_=>.stuck
theorem Dy(gl:Bool)(s:St)(f:X)(xs:List X):step Γ gl s (.call f xs)=DE (xs.map (s.eval Γ)) (s.eval Γ f):=by
  simp only[step,DE];cases s.eval Γ f<;>simp
theorem B0(xs:List AV)(g:FuncId)(first caps:List AV):DE xs (.fn g first caps)=.call g (first++(xs++caps)):=rfl
theorem Jq(gl:Bool)(s:St)(f:FuncId)(a b:List X):step Γ gl s (.mkf f a b)=.val (.fn f (a.map (s.eval Γ)) (b.map (s.eval Γ))) s:=rfl
theorem i6(e:List AV)(l:List (List AV))(h:AH)(cs:List AV):(St.mk e l h).push cs=⟨e,l,h++[some (0,cs)]⟩:=rfl
def Nk(s:St)(sz bytes:Nat)(z:List AV):AV→AV→AR
  | .int _ ln,.int _ cp=>.CO (CJ s sz bytes z ln cp)
  | _,_=>.stuck
theorem Kh(gl:Bool)(s:St)(sz bytes:Nat)(z:List AV)(l c:X):step Γ gl s (.mks sz bytes z l c)=Nk s sz bytes z (s.eval Γ l) (s.eval Γ c):=by
  simp only[step];unfold Nk;rfl
def lO(s:St)(n:Nat)(a:AV):Option (List AV)→AR
  | some cs=>if cs.length=n then .CN (s.store a cs)else .stuck
  | none=>.stuck
theorem B7(gl:Bool)(s:St)(n:Nat)(a v:X):step Γ gl s (.store n a v)=lO s n (s.eval Γ a) (cellsOf (s.eval Γ v)):=by
  simp only[step,lO];cases cellsOf (s.eval Γ v)<;>rfl
theorem PG(s:St)(n:Nat)(a:AV)(cs:List AV)(h:cs.length=n):lO s n a (some cs)=.CN (s.store a cs):=by simp[lO,h]
theorem Rq(s:St)(a x:AV):lO s 1 a (some [x])=.CN (s.store a [x]):=rfl
theorem Qw(k:IntKind)(n:Int):cellsOf (.int k n)=some [.int k n]:=rfl
theorem OF(b:Bool):cellsOf (.bool b)=some [.bool b]:=rfl
theorem Qi(b:ByteArray):cellsOf (.str b)=some [.str b]:=rfl
theorem PY(cs:List AV):cellsOf (.agg cs)=some cs:=rfl
theorem Hq(β:Bool)(sz:Nat)(ex:Bool)(xs:List (List AV)):cellsOf (.vs β sz ex xs)=some [.vs β sz ex xs]:=rfl
theorem GI(b g off len cap sz:Nat)(ex:Bool):cellsOf (.gs b g off len cap sz ex)=some [.gs b g off len cap sz ex]:=rfl
theorem Jv:cellsOf .nilp=some [.nilp]:=rfl
theorem J5:cellsOf .nils=some [.nils]:=rfl
theorem cW(h:AH)(x:Nat×List AV):b7 (h++[some x]) h.length=some x:=by simp[b7]
theorem As{e:List AV}{l:List (List AV)}{h:AH}{cs:List AV}{off n:Nat}:(St.mk e l (h++[some (0,cs)])).cells (.gp h.length 0 off) n=sub cs off n:=by
  simp only[St.cells,cW,Option.bind_some,if_true]
theorem qR{b g off len cap sz:Nat}{ex:Bool}{k:Nat}(hk:k<len):dV sz (.gs b g off len cap sz ex) (k:Int)=some (.gp b g (off+k*sz)):=by
  have:((k:Int)<(len:Int)):=by omega
  simp[dV,this]
def Cq(gl:Bool)(s:St):Option (List AV)→AR
  | some cs=>if gl=true then (if cs.all bj then .val (.gp s.heap.length 0 0) (s.push cs)else .stuck)else .val (.lp s.loc.length 0) { s with loc:=s.loc++[cs] }
  | none=>.stuck
theorem Ks(gl:Bool)(s:St)(x:X):step Γ gl s (.box x)=Cq gl s (cellsOf (s.eval Γ x)):=by
  simp only[step,Cq];cases cellsOf (s.eval Γ x)<;>rfl
theorem tN(s:St)(cs:List AV)(h:cs.all bj=true):Cq true s (some cs)=.val (.gp s.heap.length 0 0) (s.push cs):=by simp[Cq,h]
theorem Kg(e:List AV)(l:List (List AV))(h:AH)(cs:List AV):Cq false ⟨e,l,h⟩ (some cs)=.val (.lp l.length 0) ⟨e,l++[cs],h⟩:=rfl
def xK(gl:Bool)(s:St)(z:List AV):AR:=if gl=true then (if z.all bj then .val (.gp s.heap.length 0 0) (s.push z)else .stuck)else .val (.lp s.loc.length 0) { s with loc:=s.loc++[z] }
theorem B3(gl:Bool)(s:St)(z:List AV):step Γ gl s (.alloc z)=xK gl s z:=rfl
theorem xN(s:St)(z:List AV)(h:z.all bj=true):xK true s z=.val (.gp s.heap.length 0 0) (s.push z):=by simp[xK,h]
theorem BT(e:List AV)(l:List (List AV))(h:AH)(z:List AV):xK false ⟨e,l,h⟩ z=.val (.lp l.length 0) ⟨e,l++[z],h⟩:=rfl
theorem Q2(a:Nat)(gl:Gl)(d:Nat)(g:Option (Nat×Bool))(i:I):kj (a::gl) ⟨some d,g,i⟩=(d == a || kj gl ⟨some d,g,i⟩):=by simp only[kj,O.dst,List.contains_cons]
theorem I4(f:FuncId)(a b:List AV):cellsOf (.fn f a b)=some [.fn f a b]:=rfl
theorem Mr(b:Bool):dY (.bool b)=true:=rfl
theorem MY(k:IntKind)(n:Int):dY (.int k n)=true:=rfl
theorem Q5(b:ByteArray):dY (.str b)=true:=rfl
theorem Kc:dY .nilp=true:=rfl
theorem Jp:dY .nils=true:=rfl
theorem G3:dY .nilf=true:=rfl
theorem Kq(b g off:Nat):dY (.gp b g off)=true:=rfl
theorem IX(β:Bool)(cs:List AV):dY (.ip β cs)=true:=rfl
theorem Jo(b g off len cap sz:Nat)(ex:Bool):dY (.gs b g off len cap sz ex)=true:=rfl
theorem GN(β:Bool)(sz:Nat)(ex:Bool)(xs:List (List AV)):dY (.vs β sz ex xs)=true:=rfl
theorem M0(cs:List AV):dY (.agg cs)=cs.all bj:=rfl
theorem OO(f:FuncId)(a b:List AV):dY (.fn f a b)=(a.all g9 && b.all g9):=rfl
theorem Oh(b:Bool):bj (.bool b)=true:=rfl
theorem On(k:IntKind)(n:Int):bj (.int k n)=true:=rfl
theorem OI(b:ByteArray):bj (.str b)=true:=rfl
theorem GC:bj .nilp=true:=rfl
theorem GR:bj .nils=true:=rfl
theorem HD(b g off:Nat):bj (.gp b g off)=true:=rfl
theorem Hy(β:Bool)(cs:List AV):bj (.ip β cs)=true:=rfl
theorem Jt(b g off len cap sz:Nat)(ex:Bool):bj (.gs b g off len cap sz ex)=true:=rfl
theorem Kj(β:Bool)(sz:Nat)(ex:Bool)(xs:List (List AV)):bj (.vs β sz ex xs)=true:=rfl
theorem Kp(b g off:Nat):g9 (.gp b g off)=true:=rfl
theorem PW(k:IntKind)(n:Int):g9 (.int k n)=true:=rfl
theorem HY(β:Bool)(cs:List AV):g9 (.ip β cs)=true:=rfl
theorem Gs(p:AV→Bool):List.all [] p=true:=rfl
theorem Ku(p:AV→Bool)(x:AV)(xs:List AV):List.all (x::xs) p=(p x && List.all xs p):=rfl
theorem T.drop{f:FuncId}{args:List AV}{h:AH}{Q K:AV→AH→Prop}(t:T P Γ f args h Q)(hq:∀v h',Q v h'→∃new,h'=h++new∧IT h.length v∧K v h):T P Γ f args h K:=by
  refine t.freeze fun v h' q=>?_
  obtain⟨new,rfl,h1,h2⟩:=hq v h' q
  exact⟨h,new,v,rfl,rfl,fun b g cs hb=>.inl hb,.same v h1,h2⟩
def oI:List O→Nat→Option O
  | [],_=>none
  | o::_,0=>some o
  | _::os,n+1=>oI os n
theorem Jr:∀(os:List O) (j:Nat),os[j]? = oI os j
  | [],_=>by simp[oI]
  | o::os,0=>by simp[oI]
  | o::os,n+1=>by simpa[oI]using Jr os n
def DW(P:Program)(Γ:bY)(gl:Gl)(os:List O)(K:St→Prop)(s:St):Option O→Prop
  | some o=>AA P Γ K o.dst s (guardOf os s o.gd) (step Γ (kj gl o) s o.op)
  | none=>K s
def DL(s:St)(K:St→Prop)(s':St):Prop:=Mem s s'∧K s'
theorem PV(o:O)(os:List O):oI (o::os) 0=some o:=rfl
theorem QS(o:O)(os:List O)(n:Nat):oI (o::os) (n+1)=oI os n:=rfl
theorem GG(gl:Gl)(os:List O)(K:St→Prop)(s:St)(o:O):DW P Γ gl os K s (some o)=AA P Γ K o.dst s (guardOf os s o.gd) (step Γ (kj gl o) s o.op):=rfl
theorem lY(gl:Gl)(os:List O)(i:Nat)(K:St→Prop)(s:St):sW P Γ gl os i K s=DW P Γ gl os K s (oI os i):=by
  unfold sW
  rw[Jr]
  cases oI os i with
  | none=>rfl
  | some o=>
    simp only[DW,AA]
    cases guardOf os s o.gd with
    | none=>rfl
    | some t=>cases step Γ (kj gl o) s o.op<;>rfl
theorem Oj(gl:Gl)(os:List O)(K:St→Prop)(s:St):bB P Γ gl os K 0 .done s=K s:=rfl
theorem T8(gl:Gl)(os:List O)(K:St→Prop)(n i:Nat)(d:D)(s:St):bB P Γ gl os K (n+1) (.q i d) s=DW P Γ gl os (bB P Γ gl os K n d) s (oI os i):=by
  rw[←lY];rfl
theorem Mt(gl:Gl)(os:List O)(K:St→Prop)(n i:Nat)(d:D)(s:St):bB P Γ gl os K (n+1) (.all [(i,d)]) s=DW P Γ gl os (DL s (bB P Γ gl os K n d)) s (oI os i):=by
  rw[←lY];simp only[bB,td,and_true];rfl
theorem Nq(gl:Gl)(os:List O)(K:St→Prop)(n i:Nat)(d:D)(p:Nat×D)(ds:List (Nat×D))(s:St):bB P Γ gl os K (n+1) (.all ((i,d)::p::ds)) s =
    (DW P Γ gl os (DL s (bB P Γ gl os K n d)) s (oI os i)∧bB P Γ gl os K (n+1) (.all (p::ds)) s):=by
  rw[←lY];simp only[bB,td];rfl
def F5(rs:List Nat)(s:St)(K:St→Prop)(s':St):Prop:=eK rs s s'∧K s'
theorem IM(gl:Gl)(os:List O)(K:St→Prop)(n i:Nat)(rs:List Nat)(d:D)(s:St):bB P Γ gl os K (n+1) (.mix [(i,some rs,d)]) s=DW P Γ gl os (F5 rs s (bB P Γ gl os K n d)) s (oI os i):=by
  rw[←lY];simp only[bB,pU,and_true];rfl
theorem Ji(gl:Gl)(os:List O)(K:St→Prop)(n i:Nat)(d:D)(s:St):bB P Γ gl os K (n+1) (.mix [(i,none,d)]) s=DW P Γ gl os (DL s (bB P Γ gl os K n d)) s (oI os i):=by
  rw[←lY];simp only[bB,pU,and_true];rfl
theorem Gx(gl:Gl)(os:List O)(K:St→Prop)(n i:Nat)(rs:List Nat)(d:D)(p:Nat×Option (List Nat)×D)(ds:List (Nat×Option (List Nat)×D))(s:St):bB P Γ gl os K (n+1) (.mix ((i,some rs,d)::p::ds)) s =
    (DW P Γ gl os (F5 rs s (bB P Γ gl os K n d)) s (oI os i)∧bB P Γ gl os K (n+1) (.mix (p::ds)) s):=by
  rw[←lY];simp only[bB,pU];rfl
theorem IW(gl:Gl)(os:List O)(K:St→Prop)(n i:Nat)(d:D)(p:Nat×Option (List Nat)×D)(ds:List (Nat×Option (List Nat)×D))(s:St):bB P Γ gl os K (n+1) (.mix ((i,none,d)::p::ds)) s =
    (DW P Γ gl os (DL s (bB P Γ gl os K n d)) s (oI os i)∧bB P Γ gl os K (n+1) (.mix (p::ds)) s):=by
  rw[←lY];simp only[bB,pU];rfl
theorem Mz(gl:Gl)(os:List O)(K:St→Prop)(n i:Nat)(rs:List Nat)(d:D)(s:St):bB P Γ gl os K (n+1) (.st i rs d) s=DW P Γ gl os (F5 rs s (bB P Γ gl os K n d)) s (oI os i):=by
  rw[←lY];rfl
theorem Ty(rs:List Nat)(s:St)(K:St→Prop)(s':St):F5 rs s K s'=(eK rs s s'∧K s'):=rfl
def AS(k:Nat):AV→Bool|.lp i _=>i != k|.gp ..=>true|.ip ..=>true|_=>false
def DF:AV→Bool|.lp ..=>true|.ip ..=>true|_=>false
theorem dg{rs:List Nat}{s s':St}(m:Mem s s'):eK rs s s':=fun r _ n cs h=>uY m h
theorem yJ(k:Nat){rs:List Nat}{e e':List AV}{L:List (List AV)}{z:List AV}{h:AH}(hb:(rs.all fun r=>AS k (e.getD r .any))=true):eK rs ⟨e,L,h⟩ ⟨e',L.set k z,h⟩:=by
  intro r hr n cs h5
  have hb:=List.all_eq_true.1 hb r hr
  simp only at h5 ⊢
  generalize e.getD r .any=p at h5 hb ⊢
  cases p with
  | lp i off=>
    simp only[AS,bne_iff_ne,ne_eq]at hb
    simp only[St.cells]at h5 ⊢
    rw[List.getElem?_set_ne (Ne.symm hb)];exact h5
  | gp b g off=>exact h5
  | ip β xs=>exact h5
  | _=>simp[AS]at hb
theorem fG{rs:List Nat}{e e':List AV}{L L':List (List AV)}{h h':AH}(hb:(rs.all fun r=>DF (e.getD r .any))=true):eK rs ⟨e,L,h⟩ ⟨e',L++L',h'⟩:=by
  intro r hr n cs h5
  have hb:=List.all_eq_true.1 hb r hr
  simp only at h5 ⊢
  generalize e.getD r .any=p at h5 hb ⊢
  cases p with
  | lp i off=>
    simp only[St.cells]at h5 ⊢
    cases hx:L[i]? with
    | none=>simp[hx]at h5
    | some l=>rw[List.getElem?_append_left (ay hx),hx];simpa[hx]using h5
  | ip β xs=>exact h5
  | _=>simp[DF]at hb
theorem eu{rs:List Nat}{e e':List AV}{L:List (List AV)}{h h':AH}(hb:(rs.all fun r=>DF (e.getD r .any))=true):eK rs ⟨e,L,h⟩ ⟨e',L,h'⟩:=by
  have:=fG (e':=e') (L:=L) (L':=[]) (h:=h) (h':=h') hb
  rwa[List.append_nil]at this
theorem Uj(s:St)(K:St→Prop)(s':St):DL s K s'=(Mem s s'∧K s'):=rfl
theorem Up(e e':List AV)(l:List (List AV))(h:AH):Mem ⟨e,l,h⟩ ⟨e',l,h⟩=True:=eq_true (Mem.env _ _)
theorem TE(e e':List AV)(l:List (List AV))(h n:AH):Mem ⟨e,l,h⟩ ⟨e',l,h++n⟩=True:=eq_true (Mem.heap ⟨e,l,h⟩ _ _)
theorem Ub(e e':List AV)(l l':List (List AV))(h:AH):Mem ⟨e,l,h⟩ ⟨e',l++l',h⟩=True:=eq_true (Mem.loc ⟨e,l,h⟩ _ _)
theorem Ol(rs:List Nat)(e e':List AV)(l:List (List AV))(h:AH):eK rs ⟨e,l,h⟩ ⟨e',l,h⟩=True:=eq_true (dg (Mem.env _ _))
theorem OQ(rs:List Nat)(e e':List AV)(l:List (List AV))(h n:AH):eK rs ⟨e,l,h⟩ ⟨e',l,h++n⟩=True:=eq_true (dg (Mem.heap ⟨e,l,h⟩ _ _))
theorem Dz(s:SH)(sz:Nat)(xs:List (List AV)):dY (sl s sz xs)=true:=by cases s<;>rfl
theorem B2(s:SH)(sz:Nat)(xs:List (List AV)):bj (sl s sz xs)=true:=by cases s<;>rfl
theorem GW(s:SH)(sz:Nat)(xs:List (List AV)):cellsOf (sl s sz xs)=some [sl s sz xs]:=by cases s<;>rfl
theorem wN{n:Nat}(h:n<9223372036854775807):IntKind.i64.wrap ((n:Int)+1)=((n+1:Nat):Int):=by
  rw[fo (by omega) (by omega)];rfl
end
theorem EO:type_of% (And.intro @Mr (And.intro @MY (And.intro @Q5 (And.intro @Kc (And.intro @Jp (And.intro @G3 (And.intro @Kq (And.intro @IX (And.intro @Jo (And.intro @GN (And.intro @M0 (And.intro @OO (And.intro @Oh (And.intro @On (And.intro @OI (And.intro @GC (And.intro @GR (And.intro @HD (And.intro @Hy (And.intro @Jt (And.intro @Kj (And.intro @Kp (And.intro @PW (And.intro @HY (And.intro @Gs (And.intro @Ku (And.intro @Dz (And.intro @B2 (And.intro @Bool.and_true (@Bool.true_and)))))))))))))))))))))))))))))):=And.intro @Mr (And.intro @MY (And.intro @Q5 (And.intro @Kc (And.intro @Jp (And.intro @G3 (And.intro @Kq (And.intro @IX (And.intro @Jo (And.intro @GN (And.intro @M0 (And.intro @OO (And.intro @Oh (And.intro @On (And.intro @OI (And.intro @GC (And.intro @GR (And.intro @HD (And.intro @Hy (And.intro @Jt (And.intro @Kj (And.intro @Kp (And.intro @PW (And.intro @HY (And.intro @Gs (And.intro @Ku (And.intro @Dz (And.intro @B2 (And.intro @Bool.and_true (@Bool.true_and)))))))))))))))))))))))))))))
theorem EL:type_of% (And.intro @IM (And.intro @Ji (And.intro @Gx (And.intro @IW (And.intro @Ol (And.intro @OQ (And.intro @GV (And.intro @Gy (And.intro @Jh (And.intro @Ia (And.intro @Dy (And.intro @B0 (And.intro @Jq (And.intro @i6 (And.intro @Kh (And.intro @B7 (And.intro @Rq (And.intro @Ks (And.intro @Kg (And.intro @B3 (And.intro @BT (And.intro @Q2 (And.intro @I4 (And.intro @GW (And.intro @Bool.true_or (And.intro @Bool.false_or (And.intro @Qw (And.intro @OF (And.intro @Qi (And.intro @PY (And.intro @Hq (And.intro @GI (And.intro @Jv (And.intro @J5 (And.intro @Oj (And.intro @T8 (And.intro @Mt (And.intro @Nq (And.intro @Mz (And.intro @Ty (And.intro @GG (And.intro @PV (And.intro @QS (And.intro @Uj (And.intro @Up (And.intro @TE (And.intro @Ub (And.intro @true_and (@and_true))))))))))))))))))))))))))))))))))))))))))))))))):=And.intro @IM (And.intro @Ji (And.intro @Gx (And.intro @IW (And.intro @Ol (And.intro @OQ (And.intro @GV (And.intro @Gy (And.intro @Jh (And.intro @Ia (And.intro @Dy (And.intro @B0 (And.intro @Jq (And.intro @i6 (And.intro @Kh (And.intro @B7 (And.intro @Rq (And.intro @Ks (And.intro @Kg (And.intro @B3 (And.intro @BT (And.intro @Q2 (And.intro @I4 (And.intro @GW (And.intro @Bool.true_or (And.intro @Bool.false_or (And.intro @Qw (And.intro @OF (And.intro @Qi (And.intro @PY (And.intro @Hq (And.intro @GI (And.intro @Jv (And.intro @J5 (And.intro @Oj (And.intro @T8 (And.intro @Mt (And.intro @Nq (And.intro @Mz (And.intro @Ty (And.intro @GG (And.intro @PV (And.intro @QS (And.intro @Uj (And.intro @Up (And.intro @TE (And.intro @Ub (And.intro @true_and (@and_true))))))))))))))))))))))))))))))))))))))))))))))))
end Go.AM
namespace Go.AM
section
variable {P:Program} {Θ:lF} {Γ:bY}
def Qy(agg:Bool)(x:List AV):AV:=if agg=true then .agg x else x.getD 0 .any
def F9(agg:Bool)(sz:Nat)(x:List AV):Prop:=x.length=sz∧(agg=true∨sz=1)
theorem yC{agg:Bool}{sz:Nat}{x:List AV}(h:F9 agg sz x):(sub x 0 sz).bind (ic agg)=some (Qy agg x):=by
  obtain⟨h1,h2⟩:=h
  simp only[sub,Nat.zero_add,List.drop_zero]
  rw[if_pos (by omega),List.take_of_length_le (by omega)]
  rcases h2 with rfl|rfl
  · rfl
  · cases agg
    · match x,h1 with
      | [a],_=>rfl
    · rfl
def sV(sz:Nat)(agg:Bool):C:=.seq (.reg [⟨(some 4),none,.mov (.c (.int .i64 0))⟩]) (.seq (.seq (.reg [⟨(some 6),none,.mov (.t 0)⟩,
  ⟨(some 7),none,.len false (.t 6)⟩,
  ⟨(some 8),none,.mov (.c (.int .i64 0))⟩]) (.block 0 (.loop (.seq (.reg [⟨(some 9),none,.bin .lss (.num) (.t 8) (.t 7)⟩]) (.seq (.cond (.t 9) (.skip) (.exit 0)) (.seq (.block 1 (.seq (.reg [⟨(some 10),none,.mov (.t 8)⟩,
  ⟨(some 5),none,.mov (.t 10)⟩]) (.seq (.reg [⟨(some 11),none,.mov (.t 1)⟩,
  ⟨(some 12),none,.mov (.t 0)⟩,
  ⟨(some 13),none,.mov (.t 5)⟩,
  ⟨(some 14),none,.idxs sz (.t 12) (.t 13)⟩,
  ⟨(some 15),none,.load sz agg (.t 14)⟩,
  ⟨(some 16),none,.call (.t 11) [.t 15]⟩]) (.cond (.t 16) (.seq (.reg [⟨(some 17),none,.mov (.t 5)⟩,
  ⟨(some 4),none,.mov (.t 17)⟩]) (.ret)) (.skip))))) (.reg [⟨(some 18),none,.bin .add (.num) (.t 8) (.c (.int .i64 1))⟩,
  ⟨(some 8),none,.mov (.t 18)⟩]))))))) (.seq (.reg [⟨(some 4),none,.mov (.c (.int .i64 (-1)))⟩]) (.ret)))
abbrev Eb(P:Program)(Θ:lF)(Γ:bY)(f:FuncId)(c:C)(rs:List RS)(us:List AV):Prop:=
  ∀{a0 a1:AV} {h:AH} {K:AV→AH→Prop},TC P Θ Γ c (bk rs K) ⟨a0::a1::us,[],h⟩→T P Γ f [a0,a1] h K
def ints(l:List Int):List (List AV):=l.map fun n=>[.int .i64 n]
end
end Go.AM
