import Derived.Test.YtolciaflplefcaaGreatAmG5
import Derived.Laws.StructEq
set_option linter.unusedVariables false
set_option linter.unusedSimpArgs false
open Bool renaming and_eq_true→Aaa,and_true→Aae,true_and→Aaf,false_or→Aag,true_or→Aah
open List renaming getD_eq_getElem?_getD→Aab,all_eq_true→Aac,all→Aai
open Option renaming map_eq_some_iff→Aad
namespace Go.AM
section
variable {P:Program}
def yN:TK→Bool|.int _|.bool|.str=>true|_=>false
def tj(P:Program):List Field→Nat→List TK→Bool
 | [],_,[]=>true
 | f::fs,o,k::ks=>f.name != "_" && f.offset == o && (match P.underlying f.type with|some d=>vc d == k && yN k|none=>false) && tj P fs (o+1) ks
 | _,_,_=>false
def DG(P:Program)(t:TypeId)(ks:List TK):Bool:=
 !P.eqGuardType P.depth t && !P.stoodInHeld t && match P.underlying t with|some (.struct fs)=>tj P fs.toList 0 ks|_=>false
theorem Dy{t:TypeId}{d:TypeDesc}(hu:P.underlying t=some d)(hb:yN (vc d)=true){xs:Array Value}{off:Nat}{v:Value}(hx:xs[off]? = some v)(w:World):(part t xs off).run P w=.ok v w:=by
 cases d<;>simp[vc,yN]at hb<;>simp[part,isAgg,run_underlying hu,hx]
theorem Ax(d:Nat){w:World}{ρ:j9}{ls:List Nat}{xs ys:Array Value}:∀(fs:List Field) (o:Nat) (ks:List TK) (zas bs:List AV) (r:Bool),tj P fs o ks=true→
 (∀(i:Nat) (x:AV),zas[i]? = some x→∃y,xs[o+i]? = some y∧RV ρ ls x y)→(∀(i:Nat) (x:AV),bs[i]? = some x→∃y,ys[o+i]? = some y∧RV ρ ls x y)→uO ks zas bs=some r→
 (Op.eqFields (d+1) xs ys fs).run P w=.ok r w
 | [],o,[],zas,bs,r,hf,ha,hb,h=>by
  match zas,bs,h with
  | [],[],h=>simp[uO]at h;subst h;simp[Op.eqFields]
 | f::fs,o,k::ks,zas,bs,r,hf,ha,hb,h=>by
  match zas,bs,h with
  | a::zas,b::bs,h=>
   simp only[uO]at h;obtain⟨e,h1,h2⟩:=qd h;rw[Aad]at h2;obtain⟨e',h2,rfl⟩:=h2;simp only[tj,Aaa,bne_iff_ne,ne_eq,beq_iff_eq]at hf;obtain⟨⟨⟨f1,f2⟩,f3⟩,f4⟩:=hf;obtain⟨y1,p1,r1⟩:=ha 0 a rfl;obtain⟨y2,p2,r2⟩:=hb 0 b rfl;have ih:=Ax d (w:=w) fs (o+1) ks zas bs e' f4 (fun i x hx=>by have:=ha (i+1) x (by simpa using hx);rwa[show o+(i+1)=o+1+i by omega]at this)
    (fun i x hx=>by have:=hb (i+1) x (by simpa using hx);rwa[show o+(i+1)=o+1+i by omega]at this) h2
   split at f3
   ·rename_i d' hu;simp only[Aaa,beq_iff_eq]at f3;obtain⟨f3,f5⟩:=f3;have f6:yN (vc d')=true:=by rw[f3];exact f5
    have q1:=Dy hu f6 (xs:=xs) (off:=o) (v:=y1) (by simpa using p1) w;have q2:=Dy hu f6 (xs:=ys) (off:=o) (v:=y2) (by simpa using p2) w;have q3:(Op.equalIn (d+1) f.type y1 y2).run P w=.ok e w:=by
     rw[←f3]at h1;cases d'<;>simp[vc,yN]at f6<;>simp only[vc]at h1<;>unfold xy at h1<;>(split at h1)<;>(try (cases h1;done))<;>rename_i h3<;>(try (cases h3;done))
     all_goals skip
     ·injection h1 with h1;cases r1;cases r2;subst h1
      exact run_equalIn_bool' w d f.type _ _ hu
     ·split at h1
      ·rename_i hk;injection h1 with h1;cases r1;cases r2;subst h1;subst hk
       exact run_equalIn_int w d f.type _ _ _ _ hu
      ·cases h1
     ·injection h1 with h1;cases r1;cases r2;subst h1
      exact run_equalIn_string w d f.type _ _ hu
    simp only[Op.eqFields,f1,ne_eq,not_false_eq_true,if_true,f2,Sem.run_bind,q1,q2,q3,Result.andThen_ok];cases e
    ·simp
    ·simpa using ih
   ·cases f3
 | [],_,_::_,_,_,_,hf,_,_,_=>by simp[tj]at hf
 | _::_,_,[],_,_,_,hf,_,_,_=>by simp[tj]at hf
theorem Gs{t:TypeId}{ks:List TK}(h:DG P t ks=true):AO P t ks:=by
 simp only[DG,Aaa,Bool.not_eq_true']at h;obtain⟨⟨h1,h2⟩,h3⟩:=h;refine⟨h1,fun w ρ ls zas bs xs ys r ra rb ha=>?_⟩;cases hu:P.underlying t with
 | none=>simp[hu]at h3
 | some d=>
  cases d<;>simp[hu]at h3;rename_i fs;have hfs:P.fieldsOf t=fs:=by simp[Program.fieldsOf,hu]
  unfold Op.equal;have look:∀{zas:List AV} {xs:Array Value},kX ρ ls zas xs.toList→∀(i:Nat) (x:AV),zas[i]? = some x→∃y,xs[0+i]? = some y∧RV ρ ls x y:=by
   intro zas xs ra i x hx;have hl:=aL hx;have h:=ra.2 i x hx;have hl':i<xs.toList.length:=by rw[←ra.1];exact hl
   have hl'':i<xs.size:=by simpa using hl'
   refine⟨xs[i],by simp[hl''],?_⟩;simpa[Aab,hl'']using h
  rw[show Op.maxDepth=(Op.maxDepth-1)+1 from rfl,run_equalIn_struct w _ t xs ys (by rw[hfs];exact hu) h2,hfs];rw[show Op.maxDepth-1=(Op.maxDepth-2)+1 from rfl];exact Ax _ fs.toList 0 ks zas bs r h3 (look ra) (look rb) ha
def Kv(L:List (Nat×TI)):ub:=fun t=>(L.find? fun p=>p.1 == t).map (·.2)
theorem L9{L:List (Nat×TI)}(h1:(L.map fun p=>Tn P p.1)=L.map fun p=>some (p.2.kd,p.2.size,p.2.bytes,p.2.zero,true))
 (h2:(L.all fun p=>match p.2.plainEq with|none=>true|some ks=>DG P p.1 ks)=true):iO P (Kv L):=by
 intro t ti h;unfold Kv at h;rw[Aad]at h;obtain⟨p,hp,rfl⟩:=h;have hm:=List.mem_of_find?_eq_some hp;have ht:p.1=t:=by simpa using List.find?_some hp
 subst ht;refine⟨List.map_inj_left.1 h1 p hm,fun ks hk=>?_⟩;have:=Aac.1 h2 p hm;simp only[hk]at this;exact Gs this
def aH(f:Func):Code:=match f.body with|some c=>c|none=>.skip
abbrev u:AV:=.tup []
end
end Go.AM
namespace Go.AM
section
variable {P:Program} {Θ:ub} {Γ:bG}
theorem J4(a:AV)(l:List AV)(d:AV):(a::l).getD 0 d=a:=rfl
theorem Kc(a b:AV)(l:List AV)(d:AV):(a::b::l).getD 1 d=b:=rfl
theorem KM(a b c:AV)(l:List AV)(d:AV):(a::b::c::l).getD 2 d=c:=rfl
theorem KW(a b c e:AV)(l:List AV)(d:AV):(a::b::c::e::l).getD 3 d=e:=rfl
theorem Lg(a0 a1 a2 a3:AV)(l:List AV)(n:Nat)(d:AV):(a0::a1::a2::a3::l).getD (n+4) d=l.getD n d:=rfl
theorem Io(a0 a1 a2 a3 a4 a5 a6 a7 a8 a9 b0 b1 b2 b3 b4 b5:AV)(l:List AV)(n:Nat)(d:AV):
 (a0::a1::a2::a3::a4::a5::a6::a7::a8::a9::b0::b1::b2::b3::b4::b5::l).getD (n+16) d=l.getD n d:=rfl
theorem Lu(a:AV)(l:List AV)(v:AV):(a::l).set 0 v=v::l:=rfl
theorem Mo(a b:AV)(l:List AV)(v:AV):(a::b::l).set 1 v=a::v::l:=rfl
theorem K5(a b c:AV)(l:List AV)(v:AV):(a::b::c::l).set 2 v=a::b::v::l:=rfl
theorem KC(a b c e:AV)(l:List AV)(v:AV):(a::b::c::e::l).set 3 v=a::b::c::v::l:=rfl
theorem JH(a0 a1 a2 a3:AV)(l:List AV)(n:Nat)(v:AV):(a0::a1::a2::a3::l).set (n+4) v=a0::a1::a2::a3::l.set n v:=rfl
theorem Hs(a0 a1 a2 a3 a4 a5 a6 a7 a8 a9 b0 b1 b2 b3 b4 b5:AV)(l:List AV)(n:Nat)(v:AV):
 (a0::a1::a2::a3::a4::a5::a6::a7::a8::a9::b0::b1::b2::b3::b4::b5::l).set (n+16) v=a0::a1::a2::a3::a4::a5::a6::a7::a8::a9::b0::b1::b2::b3::b4::b5::l.set n v:=rfl
theorem WG(e:List AV)(l:List (List AV))(h:AH)(n:Nat):(St.mk e l h).eval Γ (.t n)=e.getD n .any:=rfl
theorem Wv(s:St)(v:AV):s.eval Γ (.c v)=v:=rfl
theorem R9(e:List AV)(l:List (List AV))(h:AH)(d:Nat)(v:AV):(St.mk e l h).put (some d) v=⟨e.set d v,l,h⟩:=rfl
theorem PN(s:St)(v:AV):s.put none v=s:=rfl
theorem VD:∀(gl:Gl) (g:Option (Nat×Bool)) (i:I),sJ gl ⟨none,g,i⟩=false:=fun _ _ _=>rfl
theorem Y2(d:Nat)(g:Option (Nat×Bool))(i:I):sJ [] ⟨some d,g,i⟩=false:=rfl
def Gz(P:Program)(Γ:bG)(K:St→Prop)(dst:Option Nat)(s:St)(g:Option Bool)(r:AR):Prop:=
 match g with
 | none=>False
 | some t=>br t (match r with|.val v s'=>K (s'.put dst v)|.call f args=>al P Γ f args s fun v s'=>K (s'.put dst v)|.stuck=>False) (K (s.put dst (.tup [])))
theorem k_v(K:St→Prop)(d:Option Nat)(s:St)(v:AV)(s':St):Gz P Γ K d s (some true) (.val v s')=K (s'.put d v):=propext (Eb _ _)
theorem k_c(K:St→Prop)(d:Option Nat)(s:St)(f:FuncId)(args:List AV):Gz P Γ K d s (some true) (.call f args)=al P Γ f args s fun v s'=>K (s'.put d v):=propext (Eb _ _)
theorem k_f(K:St→Prop)(d:Option Nat)(s:St)(r:AR):Gz P Γ K d s (some false) r=K (s.put d (.tup [])):=propext (Ff _ _)
theorem oW{K:St→Prop}{d:Option Nat}{s:St}{t:Bool}{r:AR}(h1:t=true→Gz P Γ K d s (some true) r)(h2:t=false→Gz P Γ K d s (some false) r):Gz P Γ K d s (some t) r:=by
 cases t
 ·exact h2 rfl
 ·exact h1 rfl
theorem o_n(gl:Gl)(os:List O)(K:St→Prop)(s:St):jS P Γ gl os [] K s=K s:=rfl
theorem o_c(gl:Gl)(os:List O)(o:O)(r:List O)(K:St→Prop)(s:St):jS P Γ gl os (o::r) K s=Gz P Γ (jS P Γ gl os r K) o.dst s (guardOf os s o.gd) (step Γ (sJ gl o) s o.op):=by
 simp only[jS,Gz];cases guardOf os s o.gd with
 | none=>rfl
 | some t=>cases step Γ (sJ gl o) s o.op<;>rfl
theorem gd_n(os:List O)(s:St):guardOf os s none=some true:=rfl
def Ct:List O→Nat→Option Nat
 | [],_=>none
 | o::_,0=>o.dst
 | _::os,n+1=>Ct os n
theorem IX:∀(os:List O) (j:Nat),(os[j]?).bind (·.dst)=Ct os j
 | [],_=>by simp[Ct]
 | o::os,0=>by simp[Ct]
 | o::os,n+1=>by simpa[Ct]using IX os n
def GM(w:Bool):AV→Option Bool|.bool b=>some (b == w)|.any|.opq _=>none|_=>some false
def gdK(e:List AV)(w:Bool):Option Nat→Option Bool|none=>some false|some d=>GM w (e.getD d (.tup []))
theorem od_0(d:Option Nat)(g:Option (Nat×Bool))(i:I)(os:List O):Ct (⟨d,g,i⟩::os) 0=d:=rfl
theorem Vm(o:O)(os:List O)(n:Nat):Ct (o::os) (n+1)=Ct os n:=rfl
theorem W1(os:List O)(e:List AV)(l:List (List AV))(h:AH)(j:Nat)(w:Bool):guardOf os ⟨e,l,h⟩ (some (j,w))=gdK e w (Ct os j):=by
 simp only[guardOf,IX,gdK];cases Ct os j with
 | none=>rfl
 | some d=>
  simp only[Aab];cases e[d]? with
  | none=>rfl
  | some v=>cases v<;>rfl
theorem ZC(e:List AV)(w:Bool)(d:Nat):gdK e w (some d)=GM w (e.getD d (.tup [])):=rfl
theorem Yi(b:Bool):GM true (.bool b)=some b:=by simp[GM]
theorem gv_f(b:Bool):GM false (.bool b)=some (!b):=by simp[GM]
theorem Yr(w:Bool):GM w (.tup [])=some false:=rfl
theorem pq{K:St→Prop}{d:Option Nat}{s:St}{t:Bool}{r:AR}(h1:t=true→Gz P Γ K d s (some false) r)(h2:t=false→Gz P Γ K d s (some true) r):Gz P Γ K d s (some (!t)) r:=by
 cases t
 ·exact h2 rfl
 ·exact h1 rfl
def FK(A B:St→Prop)(s:St):AV→Prop
 | .bool t=>br t (A s) (B s)
 | _=>False
theorem c_t(A B:St→Prop)(s:St):FK A B s (.bool true)=A s:=propext (Eb _ _)
theorem c_f(A B:St→Prop)(s:St):FK A B s (.bool false)=B s:=propext (Ff _ _)
theorem bz{A B:St→Prop}{s:St}{t:Bool}(h1:t=true→A s)(h2:t=false→B s):FK A B s (.bool t):=⟨h1,h2⟩
theorem LJ(gl:Gl)(Q:AE→St→Prop)(s:St):aw P Θ Γ gl .skip Q s=Q .normal s:=rfl
theorem RO(gl:Gl)(os:List O)(Q:AE→St→Prop)(s:St):aw P Θ Γ gl (.reg os) Q s=jS P Γ gl os os (Q .normal) s:=rfl
theorem Rh(gl:Gl)(a b:C)(Q:AE→St→Prop)(s:St):aw P Θ Γ gl (.seq a b) Q s=aw P Θ Γ gl a (nt (aw P Θ Γ gl b Q) Q) s:=rfl
theorem J7(gl:Gl)(c:X)(a b:C)(Q:AE→St→Prop)(s:St):aw P Θ Γ gl (.cond c a b) Q s=FK (aw P Θ Γ gl a Q) (aw P Θ Γ gl b Q) s (s.eval Γ c):=by
 simp only[aw,FK];cases s.eval Γ c<;>rfl
theorem Ia(gl:Gl)(id:Nat)(c:C)(Q:AE→St→Prop)(s:St):aw P Θ Γ gl (.block id c) Q s=aw P Θ Γ gl c (pT id Q) s:=rfl
theorem JM(gl:Gl)(c:C)(Q:AE→St→Prop)(s:St):aw P Θ Γ gl (.loop c) Q s=TC P Θ Γ (.loop c) Q s:=rfl
theorem Lk(gl:Gl)(id:Nat)(Q:AE→St→Prop)(s:St):aw P Θ Γ gl (.exit id) Q s=Q (.exit id) s:=rfl
theorem QM(gl:Gl)(Q:AE→St→Prop)(s:St):aw P Θ Γ gl .ret Q s=Q .ret s:=rfl
theorem V0(K:St→Prop)(Q:AE→St→Prop):nt K Q .normal=K:=rfl
theorem Vk(K:St→Prop)(Q:AE→St→Prop)(id:Nat):nt K Q (.exit id)=Q (.exit id):=rfl
theorem X4(K:St→Prop)(Q:AE→St→Prop):nt K Q .ret=Q .ret:=rfl
theorem q_bn(id:Nat)(Q:AE→St→Prop):pT id Q .normal=Q .normal:=rfl
theorem XI(id:Nat)(Q:AE→St→Prop):pT id Q .ret=Q .ret:=rfl
theorem Vo(id:Nat)(Q:AE→St→Prop):pT id Q (.exit id)=Q .normal:=by funext s;simp[pT]
theorem Z2(id i:Nat)(Q:AE→St→Prop)(h:(i == id)=false):pT id Q (.exit i)=Q (.exit i):=by
 funext s;simp only[pT];rw[if_neg (by simpa using h)]
def sX:Nat→Nat→D→Bool
 | 0,_,.done=>true
 | n+1,i,.q j d=>i == j && sX n (i+1) d
 | _,_,_=>false
def MG(os:List O)(af:List (List Nat)):Bool:=match sched os af os.length (List.replicate os.length false)with|some d=>sX os.length 0 d|none=>false
theorem E4(gl:Gl)(os:List O)(K:St→Prop):∀(n i:Nat) (d:D) (s:St),i+n=os.length→sX n i d=true→fy P Γ gl os K n d s=jS P Γ gl os (os.drop i) K s
 | 0,i,.done,s,hi,_=>by rw[List.drop_of_length_le (by omega)];rfl
 | n+1,i,.q j d,s,hi,h=>by
  simp only[sX,Aaa,beq_iff_eq]at h;obtain⟨rfl,h⟩:=h;have hil:i<os.length:=by omega
  rw[List.drop_eq_getElem_cons hil,o_c];simp only[fy,Bo,List.getElem?_eq_getElem hil,Gz];cases guardOf os s os[i].gd with
  | none=>rfl
  | some t=>
   have:∀s,fy P Γ gl os K n d s=jS P Γ gl os (os.drop (i+1)) K s:=fun s=>E4 gl os K n (i+1) d s (by omega) h;have e:fy P Γ gl os K n d=jS P Γ gl os (os.drop (i+1)) K:=funext this;rw[e];simp only;cases step Γ (sJ gl os[i]) s os[i].op<;>rfl
 | n+1,_,.done,_,_,h=>by simp[sX]at h
 | n+1,_,.all _,_,_,h=>by simp[sX]at h
 | 0,_,.q _ _,_,_,h=>by simp[sX]at h
 | 0,_,.all _,_,_,h=>by simp[sX]at h
 | n+1,_,.st _ _ _,_,_,h=>by simp[sX]at h
 | 0,_,.st _ _ _,_,_,h=>by simp[sX]at h
theorem Tr{os:List O}{af:List (List Nat)}(h:MG os af=true)(gl:Gl)(Q:AE→St→Prop)(s:St):aw P Θ Γ gl (.regD os af) Q s=jS P Γ gl os os (Q .normal) s:=by
 unfold MG at h;simp only[aw];split at h
 ·rename_i d hd;rw[hd];exact E4 gl os _ os.length 0 d s (by omega) h
 ·cases h
theorem qL{os:List O}{af:List (List Nat)}{n:Nat}{d:D}(hn:os.length=n)(h:sched os af n (List.replicate n false)=some d)(gl:Gl)(Q:AE→St→Prop)(s:St):aw P Θ Γ gl (.regD os af) Q s=fy P Γ gl os (Q .normal) n d s:=by
 subst hn;simp only[aw,h]
theorem zq(tab:iO P Θ)(hm:P.follows .mixedOrders=true)(gl:Gl):∀(c:C) (Q:AE→St→Prop) (s:St),aw P Θ Γ gl c Q s→yl P Θ Γ gl c Q s:=by
 intro c
 induction c with
 | skip=>exact fun _ _ h=>h
 | reg os=>exact fun _ _ h=>h
 | regD os af=>
  intro Q s h;simp only[aw]at h;split at h
  ·rename_i d hd;exact D9 tab hm gl (B8 _ _ d s (xD _ _) hd h)
  ·exact h.elim
 | seq a b iha ihb=>
  intro Q s h;exact tu a s (fun e s he=>by cases e<;>simp only[nt]at he ⊢<;>first|exact ihb Q s he|exact he) (iha _ s h)
 | cond c a b iha ihb=>
  intro Q s h;simp only[aw,yl]at h ⊢;split at h
  ·rename_i t ht;simp only[ht];exact⟨fun ht=>iha Q s (h.1 ht),fun ht=>ihb Q s (h.2 ht)⟩
  ·exact h.elim
 | block id c ih=>exact fun Q s h=>ih _ s h
 | loop c=>exact fun _ _ h=>h
 | exit id=>exact fun _ _ h=>h
 | ret=>exact fun _ _ h=>h
theorem loop(tab:iO P Θ)(hm:P.follows .mixedOrders=true)(gl:Gl){c:C}{Q:AE→St→Prop}{s:St}{α:Type}(μ:α→Nat)(st:α→St)(x:α)(hs:Le s (st x))
 (round:∀x,aw P Θ Γ gl c (nt (fun s'=>∃y,μ y<μ x∧Le s' (st y)) Q) (st x)):TC P Θ Γ (.loop c) Q s:=
 TC.le hs (DF tab gl μ st (fun x=>zq tab hm gl _ _ _ (round x)) x)
theorem fD(tab:iO P Θ)(hm:P.follows .mixedOrders=true)(gl:Gl){c:C}{Q:AE→St→Prop}{s:St}{α:Type}(I:α→Prop)(μ:α→Nat)(st:α→St)(x:α)(hx:I x)(hs:Le s (st x))
 (round:∀x,I x→aw P Θ Γ gl c (nt (fun s'=>∃y,I y∧μ y<μ x∧Le s' (st y)) Q) (st x)):TC P Θ Γ (.loop c) Q s:=by
 refine TC.le hs (DF tab gl (fun y:{ y // I y }=>μ y.1) (fun y=>st y.1) (fun y=>tu _ _ ?_ (zq tab hm gl _ _ _ (round y.1 y.2))) ⟨x,hx⟩);intro e s h;cases e<;>simp only[nt]at h ⊢
 ·obtain⟨y,h1,h2,h3⟩:=h;exact⟨⟨y,h1⟩,h2,h3⟩
 ·exact h
 ·exact h
def JF(K:AV→AH→Prop)(h:AH):Option AV→Prop
 | some v=>cY v=true∧K v h
 | none=>False
theorem r_r(rs:List RS)(K:AV→AH→Prop)(s:St):aV rs K .ret s=JF K s.heap (Bw s rs):=by
 simp only[aV,JF];cases Bw s rs<;>rfl
theorem r_n(rs:List RS)(K:AV→AH→Prop)(s:St):aV rs K .normal s=JF K s.heap (Bw s rs):=by
 simp only[aV,JF];cases Bw s rs<;>rfl
theorem r_v(K:AV→AH→Prop)(h:AH)(v:AV):JF K h (some v)=(cY v=true∧K v h):=rfl
theorem ov1(s:St)(r:RS):Bw s [r]=ym s r:=rfl
theorem Uf(s:St)(r q:RS)(l:List RS):Bw s (r::q::l)=((r::q::l).mapM (ym s)).map .tup:=rfl
theorem WE(e:List AV)(l:List (List AV))(h:AH)(n:Nat):ym ⟨e,l,h⟩ (.t n)=some (e.getD n .any):=rfl
theorem WI(e:List AV)(l:List (List AV))(h:AH)(a n:Nat)(agg:Bool):ym ⟨e,l,h⟩ (.cell a n agg)=((St.mk e l h).cells (e.getD a .any) n).bind (nY agg):=rfl
theorem QD(s:St)(v:AV):AR.nD s (some v)=.val v s:=rfl
theorem S6(s:St):AR.G5 (some s)=.val (.tup []) s:=rfl
theorem S0(v:AV)(s:St):AR.JA (some (v,s))=.val v s:=rfl
theorem S5(gl:Bool)(s:St)(x:X):step Γ gl s (.mov x)=.val (s.eval Γ x) s:=rfl
theorem Pr(gl:Bool)(s:St)(op:BinOp)(ek:EK)(x y:X):step Γ gl s (.bin op ek x y)=.nD s (fg op ek (s.eval Γ x) (s.eval Γ y)):=rfl
def Mb(a b:AV)(s:St):AV→AR|.bool t=>.val (if t=true then a else b) s|_=>.stuck
theorem Mc(gl:Bool)(s:St)(c a b:X):step Γ gl s (.pick c a b)=Mb (s.eval Γ a) (s.eval Γ b) s (s.eval Γ c):=by simp only[step,Mb];cases s.eval Γ c<;>rfl
theorem UL(a b:AV)(s:St)(t:Bool):Mb a b s (.bool t)=.val (if t=true then a else b) s:=rfl
theorem Ym(gl:Bool)(s:St)(op:UnOp)(x:X):step Γ gl s (.un op x)=.nD s (Zn op (s.eval Γ x)):=rfl
def Ce(b:Bool)(v:AV):Option AV:=(AF b v).map fun n:Nat=>.int .i64 (n:Int)
theorem Pt(gl:Bool)(s:St)(b:Bool)(x:X):step Γ gl s (.len b x)=.nD s (Ce b (s.eval Γ x)):=by
 simp only[step,Ce];cases AF b (s.eval Γ x)<;>rfl
def Mu(s:St)(sz:Nat)(x:AV):AV→AR|.int _ n=>.nD s (fh sz x n)|_=>.stuck
theorem K6(gl:Bool)(s:St)(sz:Nat)(x i:X):step Γ gl s (.idxs sz x i)=Mu s sz (s.eval Γ x) (s.eval Γ i):=by simp only[step,Mu];cases s.eval Γ i<;>rfl
theorem Hp(s:St)(sz:Nat)(x:AV)(k:IntKind)(n:Int):Mu s sz x (.int k n)=.nD s (fh sz x n):=rfl
theorem J5(gl:Bool)(s:St)(n:Nat)(b:Bool)(a:X):step Γ gl s (.load n b a)=.nD s ((s.cells (s.eval Γ a) n).bind (nY b)):=rfl
theorem N2(gl:Bool)(s:St)(off:Nat)(x:X):step Γ gl s (.fld off x)=.nD s (rH off (s.eval Γ x)):=rfl
theorem Xi(k:IntKind)(a b:Int):fg .eql .num (.int k a) (.int k b)=some (.bool (a == b)):=by simp[fg,lF]
theorem XA(k:IntKind)(a b:Int):fg .neq .num (.int k a) (.int k b)=some (.bool (a != b)):=by simp[fg,lF]
theorem b_lt(k:IntKind)(a b:Int):fg .lss .num (.int k a) (.int k b)=some (.bool (decide (a<b))):=by simp[fg,lF]
theorem b_le(k:IntKind)(a b:Int):fg .leq .num (.int k a) (.int k b)=some (.bool (decide (a≤b))):=by simp[fg,lF]
theorem Xo(k:IntKind)(a b:Int):fg .gtr .num (.int k a) (.int k b)=some (.bool (decide (b<a))):=by simp[fg,lF]
theorem Z0(k:IntKind)(a b:Int):fg .geq .num (.int k a) (.int k b)=some (.bool (decide (b≤a))):=by simp[fg,lF]
theorem QH(k:IntKind)(a b:Int):fg .add .num (.int k a) (.int k b)=some (.int k (k.wrap (a+b))):=by simp[fg,lF]
theorem Pk(k:IntKind)(a b:Int):fg .sub .num (.int k a) (.int k b)=some (.int k (k.wrap (a-b))):=by simp[fg,lF]
theorem Rl(k:IntKind)(a b:Int):fg .mul .num (.int k a) (.int k b)=some (.int k (k.wrap (a*b))):=by simp[fg,lF]
theorem Rg(a b:Bool):fg .neq .bool (.bool a) (.bool b)=some (.bool !(a == b)):=rfl
theorem PQ(a b:Bool):fg .eql .bool (.bool a) (.bool b)=some (.bool (a == b)):=rfl
theorem Of(a b:ByteArray):fg .neq .num (.str a) (.str b)=some (.bool !(a.toList == b.toList)):=rfl
theorem Sp(a b:ByteArray):fg .eql .num (.str a) (.str b)=some (.bool (a.toList == b.toList)):=rfl
theorem S1(b:Bool):Zn .not (.bool b)=some (.bool !b):=rfl
theorem f_ip(off:Nat)(β:Bool)(cs:List AV):rH off (.ip β cs)=some (.ip β (cs.drop off)):=rfl
theorem f_lp(off i o:Nat):rH off (.lp i o)=some (.lp i (o+off)):=rfl
theorem ZN(off b g o:Nat):rH off (.gp b g o)=some (.gp b g (o+off)):=rfl
theorem VG(s:St)(β:Bool)(cs:List AV)(n:Nat):s.cells (.ip β cs) n=sub cs 0 n:=rfl
theorem w_1(x:AV):nY false [x]=some x:=rfl
theorem w_a(cs:List AV):nY true cs=some (.agg cs):=rfl
inductive SH where
 | nil|v (β ex:Bool)
 deriving DecidableEq,Inhabited
def SH.β:SH→Bool|.nil=>false|.v β _=>β
def sl(s:SH)(sz:Nat)(xs:List (List AV)):AV:=match s with|.nil=>.nils|.v β ex=>.vs β sz ex xs
def SH.ok(s:SH)(n:Nat):Prop:=s=.nil→n=0
theorem jO{n:Int}(h0:-9223372036854775808≤n)(h1:n<9223372036854775808):IntKind.i64.wrap n=n:=by
 simp[IntKind.wrap,IntKind.bits,IntKind.signed,IntKind.max,IntKind.min];omega
theorem Yj(x:AV):sub [x] 0 1=some [x]:=rfl
theorem EV:type_of% (And.intro @LJ (And.intro @RO (And.intro @Rh (And.intro @J7 (And.intro @Ia (And.intro @JM (And.intro @Lk (And.intro @QM (And.intro @V0 (And.intro @Vk (And.intro @X4 (And.intro @q_bn (And.intro @XI (And.intro @Vo (And.intro @o_n (And.intro @o_c (And.intro @k_v (And.intro @k_c (And.intro @k_f (And.intro @c_t (And.intro @c_f (And.intro @gd_n (And.intro @VD (And.intro @Y2 (And.intro @R9 (And.intro @PN (And.intro @WG (And.intro @Wv (And.intro @J4 (And.intro @Kc (And.intro @KM (And.intro @KW (And.intro @Lg (And.intro @Io (And.intro @Lu (And.intro @Mo (And.intro @K5 (And.intro @KC (And.intro @JH (And.intro @Hs (And.intro @QD (And.intro @S6 (And.intro @S0 (And.intro @S5 (And.intro @Pr (And.intro @Ym (And.intro @Pt (And.intro @K6 (And.intro @Hp (And.intro @J5 (And.intro @N2 (And.intro @Xi (And.intro @XA (And.intro @b_lt (And.intro @b_le (And.intro @Xo (And.intro @Z0 (And.intro @QH (And.intro @Pk (And.intro @Rl (And.intro @S1 (And.intro @Rg (And.intro @PQ (And.intro @Of (And.intro @Sp (And.intro @f_ip (And.intro @f_lp (And.intro @ZN (And.intro @VG (And.intro @w_1 (And.intro @w_a (And.intro @r_r (And.intro @r_n (And.intro @r_v (And.intro @W1 (And.intro @ZC (And.intro @od_0 (And.intro @Vm (And.intro @Yi (And.intro @gv_f (And.intro @Yr (And.intro @Mc (And.intro @UL (And.intro @ov1 (And.intro @Uf (And.intro @WE (And.intro @WI (@Yj)))))))))))))))))))))))))))))))))))))))))))))))))))))))))))))))))))))))))))))))))))))))):=And.intro @LJ (And.intro @RO (And.intro @Rh (And.intro @J7 (And.intro @Ia (And.intro @JM (And.intro @Lk (And.intro @QM (And.intro @V0 (And.intro @Vk (And.intro @X4 (And.intro @q_bn (And.intro @XI (And.intro @Vo (And.intro @o_n (And.intro @o_c (And.intro @k_v (And.intro @k_c (And.intro @k_f (And.intro @c_t (And.intro @c_f (And.intro @gd_n (And.intro @VD (And.intro @Y2 (And.intro @R9 (And.intro @PN (And.intro @WG (And.intro @Wv (And.intro @J4 (And.intro @Kc (And.intro @KM (And.intro @KW (And.intro @Lg (And.intro @Io (And.intro @Lu (And.intro @Mo (And.intro @K5 (And.intro @KC (And.intro @JH (And.intro @Hs (And.intro @QD (And.intro @S6 (And.intro @S0 (And.intro @S5 (And.intro @Pr (And.intro @Ym (And.intro @Pt (And.intro @K6 (And.intro @Hp (And.intro @J5 (And.intro @N2 (And.intro @Xi (And.intro @XA (And.intro @b_lt (And.intro @b_le (And.intro @Xo (And.intro @Z0 (And.intro @QH (And.intro @Pk (And.intro @Rl (And.intro @S1 (And.intro @Rg (And.intro @PQ (And.intro @Of (And.intro @Sp (And.intro @f_ip (And.intro @f_lp (And.intro @ZN (And.intro @VG (And.intro @w_1 (And.intro @w_a (And.intro @r_r (And.intro @r_n (And.intro @r_v (And.intro @W1 (And.intro @ZC (And.intro @od_0 (And.intro @Vm (And.intro @Yi (And.intro @gv_f (And.intro @Yr (And.intro @Mc (And.intro @UL (And.intro @ov1 (And.intro @Uf (And.intro @WE (And.intro @WI (@Yj)))))))))))))))))))))))))))))))))))))))))))))))))))))))))))))))))))))))))))))))))))))))
end
end Go.AM
namespace Go.AM
section
variable {P:Program} {Θ:ub} {Γ:bG}
theorem al.val{f:FuncId}{args:List AV}{s:St}{K:AV→St→Prop}{V:AV}(ho:args.all gq=true)(t:T P Γ f args s.heap fun v h'=>v=V∧h'=s.heap)(hk:K V s):al P Γ f args s K:=
 al.ref ho t (by rintro v h' ⟨rfl,rfl⟩;exact hk)
theorem Pn(s:St):List.map (s.eval Γ) []=[]:=rfl
theorem Tb(s:St)(x:X)(xs:List X):List.map (s.eval Γ) (x::xs)=s.eval Γ x::List.map (s.eval Γ) xs:=rfl
theorem ND(xs:List AV):[]++xs=xs:=rfl
theorem OD(x:AV)(xs ys:List AV):(x::xs)++ys=x::(xs++ys):=rfl
def J1(xs:List AV):AV→AR|.fn g first caps=>.call g (first++(xs++caps))|_=>.stuck
theorem Mm(gl:Bool)(s:St)(f:X)(xs:List X):step Γ gl s (.call f xs)=J1 (xs.map (s.eval Γ)) (s.eval Γ f):=by
 simp only[step,J1];cases s.eval Γ f<;>simp
theorem Ht(xs:List AV)(g:FuncId)(first caps:List AV):J1 xs (.fn g first caps)=.call g (first++(xs++caps)):=rfl
theorem O0(gl:Bool)(s:St)(f:FuncId)(a b:List X):step Γ gl s (.mkf f a b)=.val (.fn f (a.map (s.eval Γ)) (b.map (s.eval Γ))) s:=rfl
theorem jH(e:List AV)(l:List (List AV))(h:AH)(cs:List AV):(St.mk e l h).push cs=⟨e,l,h++[some (0,cs)]⟩:=rfl
def Zj(s:St)(sz bytes:Nat)(z:List AV):AV→AV→AR
 | .int _ ln,.int _ cp=>.JA (Jo s sz bytes z ln cp)
 | _,_=>.stuck
theorem SQ(gl:Bool)(s:St)(sz bytes:Nat)(z:List AV)(l c:X):step Γ gl s (.mks sz bytes z l c)=Zj s sz bytes z (s.eval Γ l) (s.eval Γ c):=by
 simp only[step];unfold Zj;rfl
def va(s:St)(n:Nat)(a:AV):Option (List AV)→AR
 | some cs=>if cs.length=n then .G5 (s.store a cs)else .stuck
 | none=>.stuck
theorem HY(gl:Bool)(s:St)(n:Nat)(a v:X):step Γ gl s (.store n a v)=va s n (s.eval Γ a) (cellsOf (s.eval Γ v)):=by
 simp only[step,va];cases cellsOf (s.eval Γ v)<;>rfl
theorem Vr(s:St)(n:Nat)(a:AV)(cs:List AV)(h:cs.length=n):va s n a (some cs)=.G5 (s.store a cs):=by simp[va,h]
theorem st_s(s:St)(a x:AV):va s 1 a (some [x])=.G5 (s.store a [x]):=rfl
theorem W3(k:IntKind)(n:Int):cellsOf (.int k n)=some [.int k n]:=rfl
theorem co_b(b:Bool):cellsOf (.bool b)=some [.bool b]:=rfl
theorem co_s(b:ByteArray):cellsOf (.str b)=some [.str b]:=rfl
theorem Vq(cs:List AV):cellsOf (.agg cs)=some cs:=rfl
theorem Sm(β:Bool)(sz:Nat)(ex:Bool)(xs:List (List AV)):cellsOf (.vs β sz ex xs)=some [.vs β sz ex xs]:=rfl
theorem Rk(b g off len cap sz:Nat)(ex:Bool):cellsOf (.gs b g off len cap sz ex)=some [.gs b g off len cap sz ex]:=rfl
theorem Om:cellsOf .nilp=some [.nilp]:=rfl
theorem Ox:cellsOf .nils=some [.nils]:=rfl
theorem eQ(h:AH)(x:Nat×List AV):cF (h++[some x]) h.length=some x:=by simp[cF]
theorem Bx{e:List AV}{l:List (List AV)}{h:AH}{cs:List AV}{off n:Nat}:(St.mk e l (h++[some (0,cs)])).cells (.gp h.length 0 off) n=sub cs off n:=by
 simp only[St.cells,eQ,Option.bind_some,if_true]
theorem uW{b g off len cap sz:Nat}{ex:Bool}{k:Nat}(hk:k<len):fh sz (.gs b g off len cap sz ex) (k:Int)=some (.gp b g (off+k*sz)):=by
 have:((k:Int)<(len:Int)):=by omega
 simp[fh,this]
def I0(gl:Bool)(s:St):Option (List AV)→AR
 | some cs=>if gl=true then (if cs.all bM then .val (.gp s.heap.length 0 0) (s.push cs)else .stuck)else .val (.lp s.loc.length 0) { s with loc:=s.loc++[cs] }
 | none=>.stuck
theorem NM(gl:Bool)(s:St)(x:X):step Γ gl s (.box x)=I0 gl s (cellsOf (s.eval Γ x)):=by
 simp only[step,I0];cases cellsOf (s.eval Γ x)<;>rfl
theorem xL(s:St)(cs:List AV)(h:cs.all bM=true):I0 true s (some cs)=.val (.gp s.heap.length 0 0) (s.push cs):=by simp[I0,h]
theorem Rd(e:List AV)(l:List (List AV))(h:AH)(cs:List AV):I0 false ⟨e,l,h⟩ (some cs)=.val (.lp l.length 0) ⟨e,l++[cs],h⟩:=rfl
def Et(gl:Bool)(s:St)(z:List AV):AR:=if gl=true then (if z.all bM then .val (.gp s.heap.length 0 0) (s.push z)else .stuck)else .val (.lp s.loc.length 0) { s with loc:=s.loc++[z] }
theorem HR(gl:Bool)(s:St)(z:List AV):step Γ gl s (.alloc z)=Et gl s z:=rfl
theorem pf(s:St)(z:List AV)(h:z.all bM=true):Et true s z=.val (.gp s.heap.length 0 0) (s.push z):=by simp[Et,h]
theorem Iy(e:List AV)(l:List (List AV))(h:AH)(z:List AV):Et false ⟨e,l,h⟩ z=.val (.lp l.length 0) ⟨e,l++[z],h⟩:=rfl
theorem YD(a:Nat)(gl:Gl)(d:Nat)(g:Option (Nat×Bool))(i:I):sJ (a::gl) ⟨some d,g,i⟩=(d == a || sJ gl ⟨some d,g,i⟩):=by simp only[sJ,O.dst,List.contains_cons]
theorem Q8(f:FuncId)(a b:List AV):cellsOf (.fn f a b)=some [.fn f a b]:=rfl
theorem YG(b:Bool):gq (.bool b)=true:=rfl
theorem W9(k:IntKind)(n:Int):gq (.int k n)=true:=rfl
theorem Yl(b:ByteArray):gq (.str b)=true:=rfl
theorem Te:gq .nilp=true:=rfl
theorem Nx:gq .nils=true:=rfl
theorem NG:gq .nilf=true:=rfl
theorem Q1(b g off:Nat):gq (.gp b g off)=true:=rfl
theorem Ou(β:Bool)(cs:List AV):gq (.ip β cs)=true:=rfl
theorem Rr(b g off len cap sz:Nat)(ex:Bool):gq (.gs b g off len cap sz ex)=true:=rfl
theorem SM(β:Bool)(sz:Nat)(ex:Bool)(xs:List (List AV)):gq (.vs β sz ex xs)=true:=rfl
theorem UP(cs:List AV):gq (.agg cs)=cs.all bM:=rfl
theorem WC(f:FuncId)(a b:List AV):gq (.fn f a b)=(a.all mo && b.all mo):=rfl
theorem V7(b:Bool):bM (.bool b)=true:=rfl
theorem UO(k:IntKind)(n:Int):bM (.int k n)=true:=rfl
theorem XS(b:ByteArray):bM (.str b)=true:=rfl
theorem PO:bM .nilp=true:=rfl
theorem Pj:bM .nils=true:=rfl
theorem RF(b g off:Nat):bM (.gp b g off)=true:=rfl
theorem Sj(β:Bool)(cs:List AV):bM (.ip β cs)=true:=rfl
theorem PY(b g off len cap sz:Nat)(ex:Bool):bM (.gs b g off len cap sz ex)=true:=rfl
theorem Qy(β:Bool)(sz:Nat)(ex:Bool)(xs:List (List AV)):bM (.vs β sz ex xs)=true:=rfl
theorem RN(b g off:Nat):mo (.gp b g off)=true:=rfl
theorem Wr(k:IntKind)(n:Int):mo (.int k n)=true:=rfl
theorem N8(β:Bool)(cs:List AV):mo (.ip β cs)=true:=rfl
theorem Q9(p:AV→Bool):Aai [] p=true:=rfl
theorem Tc(p:AV→Bool)(x:AV)(xs:List AV):Aai (x::xs) p=(p x && Aai xs p):=rfl
theorem T.drop{f:FuncId}{args:List AV}{h:AH}{Q K:AV→AH→Prop}(t:T P Γ f args h Q)(hq:∀v h',Q v h'→∃new,h'=h++new∧M5 h.length v∧K v h):T P Γ f args h K:=by
 refine t.freeze fun v h' q=>?_;obtain⟨new,rfl,h1,h2⟩:=hq v h' q;exact⟨h,new,v,rfl,rfl,fun b g cs hb=>.inl hb,.same v h1,h2⟩
def oI:List O→Nat→Option O
 | [],_=>none
 | o::_,0=>some o
 | _::os,n+1=>oI os n
theorem Og:∀(os:List O) (j:Nat),os[j]? = oI os j
 | [],_=>by simp[oI]
 | o::os,0=>by simp[oI]
 | o::os,n+1=>by simpa[oI]using Og os n
def Kf(P:Program)(Γ:bG)(gl:Gl)(os:List O)(K:St→Prop)(s:St):Option O→Prop
 | some o=>Gz P Γ K o.dst s (guardOf os s o.gd) (step Γ (sJ gl o) s o.op)
 | none=>K s
def JS(s:St)(K:St→Prop)(s':St):Prop:=Mem s s'∧K s'
theorem oi_0(o:O)(os:List O):oI (o::os) 0=some o:=rfl
theorem Wp(o:O)(os:List O)(n:Nat):oI (o::os) (n+1)=oI os n:=rfl
theorem NT(gl:Gl)(os:List O)(K:St→Prop)(s:St)(o:O):Kf P Γ gl os K s (some o)=Gz P Γ K o.dst s (guardOf os s o.gd) (step Γ (sJ gl o) s o.op):=rfl
theorem uQ(gl:Gl)(os:List O)(i:Nat)(K:St→Prop)(s:St):Bo P Γ gl os i K s=Kf P Γ gl os K s (oI os i):=by
 unfold Bo;rw[Og];cases oI os i with
 | none=>rfl
 | some o=>
  simp only[Kf,Gz];cases guardOf os s o.gd with
  | none=>rfl
  | some t=>cases step Γ (sJ gl o) s o.op<;>rfl
theorem Zl(gl:Gl)(os:List O)(K:St→Prop)(s:St):fy P Γ gl os K 0 .done s=K s:=rfl
theorem t_q(gl:Gl)(os:List O)(K:St→Prop)(n i:Nat)(d:D)(s:St):fy P Γ gl os K (n+1) (.q i d) s=Kf P Γ gl os (fy P Γ gl os K n d) s (oI os i):=by
 rw[←uQ];rfl
theorem t_a1(gl:Gl)(os:List O)(K:St→Prop)(n i:Nat)(d:D)(s:St):fy P Γ gl os K (n+1) (.all [(i,d)]) s=Kf P Γ gl os (JS s (fy P Γ gl os K n d)) s (oI os i):=by
 rw[←uQ];simp only[fy,B2,and_true];rfl
theorem X7(gl:Gl)(os:List O)(K:St→Prop)(n i:Nat)(d:D)(p:Nat×D)(ds:List (Nat×D))(s:St):fy P Γ gl os K (n+1) (.all ((i,d)::p::ds)) s =
 (Kf P Γ gl os (JS s (fy P Γ gl os K n d)) s (oI os i)∧fy P Γ gl os K (n+1) (.all (p::ds)) s):=by
 rw[←uQ];simp only[fy,B2];rfl
def Ni(rs:List Nat)(s:St)(K:St→Prop)(s':St):Prop:=jB rs s s'∧K s'
theorem PL(gl:Gl)(os:List O)(K:St→Prop)(n i:Nat)(rs:List Nat)(d:D)(s:St):fy P Γ gl os K (n+1) (.mix [(i,some rs,d)]) s=Kf P Γ gl os (Ni rs s (fy P Γ gl os K n d)) s (oI os i):=by
 rw[←uQ];simp only[fy,yX,and_true];rfl
theorem NP(gl:Gl)(os:List O)(K:St→Prop)(n i:Nat)(d:D)(s:St):fy P Γ gl os K (n+1) (.mix [(i,none,d)]) s=Kf P Γ gl os (JS s (fy P Γ gl os K n d)) s (oI os i):=by
 rw[←uQ];simp only[fy,yX,and_true];rfl
theorem OS(gl:Gl)(os:List O)(K:St→Prop)(n i:Nat)(rs:List Nat)(d:D)(p:Nat×Option (List Nat)×D)(ds:List (Nat×Option (List Nat)×D))(s:St):fy P Γ gl os K (n+1) (.mix ((i,some rs,d)::p::ds)) s =
 (Kf P Γ gl os (Ni rs s (fy P Γ gl os K n d)) s (oI os i)∧fy P Γ gl os K (n+1) (.mix (p::ds)) s):=by
 rw[←uQ];simp only[fy,yX];rfl
theorem PR(gl:Gl)(os:List O)(K:St→Prop)(n i:Nat)(d:D)(p:Nat×Option (List Nat)×D)(ds:List (Nat×Option (List Nat)×D))(s:St):fy P Γ gl os K (n+1) (.mix ((i,none,d)::p::ds)) s =
 (Kf P Γ gl os (JS s (fy P Γ gl os K n d)) s (oI os i)∧fy P Γ gl os K (n+1) (.mix (p::ds)) s):=by
 rw[←uQ];simp only[fy,yX];rfl
theorem t_st(gl:Gl)(os:List O)(K:St→Prop)(n i:Nat)(rs:List Nat)(d:D)(s:St):fy P Γ gl os K (n+1) (.st i rs d) s=Kf P Γ gl os (Ni rs s (fy P Γ gl os K n d)) s (oI os i):=by
 rw[←uQ];rfl
theorem k_k(rs:List Nat)(s:St)(K:St→Prop)(s':St):Ni rs s K s'=(jB rs s s'∧K s'):=rfl
def Hh(k:Nat):AV→Bool|.lp i _=>i != k|.gp ..=>true|.ip ..=>true|_=>false
def J6:AV→Bool|.lp ..=>true|.ip ..=>true|_=>false
theorem gh{rs:List Nat}{s s':St}(m:Mem s s'):jB rs s s':=fun r _ n cs h=>DD m h
theorem EX(k:Nat){rs:List Nat}{e e':List AV}{L:List (List AV)}{z:List AV}{h:AH}(hb:(rs.all fun r=>Hh k (e.getD r .any))=true):jB rs ⟨e,L,h⟩ ⟨e',L.set k z,h⟩:=by
 intro r hr n cs h5;have hb:=Aac.1 hb r hr;simp only at h5 ⊢;generalize e.getD r .any=p at h5 hb ⊢;cases p with
 | lp i off=>
  simp only[Hh,bne_iff_ne,ne_eq]at hb;simp only[St.cells]at h5 ⊢;rw[List.getElem?_set_ne (Ne.symm hb)];exact h5
 | gp b g off=>exact h5
 | ip β xs=>exact h5
 | _=>simp[Hh]at hb
theorem jZ{rs:List Nat}{e e':List AV}{L L':List (List AV)}{h h':AH}(hb:(rs.all fun r=>J6 (e.getD r .any))=true):jB rs ⟨e,L,h⟩ ⟨e',L++L',h'⟩:=by
 intro r hr n cs h5;have hb:=Aac.1 hb r hr;simp only at h5 ⊢;generalize e.getD r .any=p at h5 hb ⊢;cases p with
 | lp i off=>
  simp only[St.cells]at h5 ⊢;cases hx:L[i]? with
  | none=>simp[hx]at h5
  | some l=>rw[List.getElem?_append_left (aL hx),hx];simpa[hx]using h5
 | ip β xs=>exact h5
 | _=>simp[J6]at hb
theorem gI{rs:List Nat}{e e':List AV}{L:List (List AV)}{h h':AH}(hb:(rs.all fun r=>J6 (e.getD r .any))=true):jB rs ⟨e,L,h⟩ ⟨e',L,h'⟩:=by
 have:=jZ (e':=e') (L:=L) (L':=[]) (h:=h) (h':=h') hb;rwa[List.append_nil]at this
theorem m_k(s:St)(K:St→Prop)(s':St):JS s K s'=(Mem s s'∧K s'):=rfl
theorem m_e(e e':List AV)(l:List (List AV))(h:AH):Mem ⟨e,l,h⟩ ⟨e',l,h⟩=True:=eq_true (Mem.env _ _)
theorem m_h(e e':List AV)(l:List (List AV))(h n:AH):Mem ⟨e,l,h⟩ ⟨e',l,h++n⟩=True:=eq_true (Mem.heap ⟨e,l,h⟩ _ _)
theorem m_l(e e':List AV)(l l':List (List AV))(h:AH):Mem ⟨e,l,h⟩ ⟨e',l++l',h⟩=True:=eq_true (Mem.loc ⟨e,l,h⟩ _ _)
theorem YA(rs:List Nat)(e e':List AV)(l:List (List AV))(h:AH):jB rs ⟨e,l,h⟩ ⟨e',l,h⟩=True:=eq_true (gh (Mem.env _ _))
theorem m_kh(rs:List Nat)(e e':List AV)(l:List (List AV))(h n:AH):jB rs ⟨e,l,h⟩ ⟨e',l,h++n⟩=True:=eq_true (gh (Mem.heap ⟨e,l,h⟩ _ _))
theorem B3{xs:List (List AV)}{sz:Nat}(h:∀l∈xs,l.length=sz):xs.flatten.length=xs.length*sz:=by
 induction xs with
 | nil=>simp
 | cons x xs ih=>simp[ih (fun l hl=>h l (by simp[hl])),h x (by simp),Nat.succ_mul,Nat.add_comm]
theorem JP(s:SH)(sz:Nat)(xs:List (List AV)):gq (sl s sz xs)=true:=by cases s<;>rfl
theorem Ix(s:SH)(sz:Nat)(xs:List (List AV)):bM (sl s sz xs)=true:=by cases s<;>rfl
theorem SN(s:SH)(sz:Nat)(xs:List (List AV)):cellsOf (sl s sz xs)=some [sl s sz xs]:=by cases s<;>rfl
theorem wN{n:Nat}(h:n<9223372036854775807):IntKind.i64.wrap ((n:Int)+1)=((n+1:Nat):Int):=by
 rw[jO (by omega) (by omega)];rfl
end
theorem EO:type_of% (And.intro @YG (And.intro @W9 (And.intro @Yl (And.intro @Te (And.intro @Nx (And.intro @NG (And.intro @Q1 (And.intro @Ou (And.intro @Rr (And.intro @SM (And.intro @UP (And.intro @WC (And.intro @V7 (And.intro @UO (And.intro @XS (And.intro @PO (And.intro @Pj (And.intro @RF (And.intro @Sj (And.intro @PY (And.intro @Qy (And.intro @RN (And.intro @Wr (And.intro @N8 (And.intro @Q9 (And.intro @Tc (And.intro @JP (And.intro @Ix (And.intro @Aae (@Aaf)))))))))))))))))))))))))))))):=And.intro @YG (And.intro @W9 (And.intro @Yl (And.intro @Te (And.intro @Nx (And.intro @NG (And.intro @Q1 (And.intro @Ou (And.intro @Rr (And.intro @SM (And.intro @UP (And.intro @WC (And.intro @V7 (And.intro @UO (And.intro @XS (And.intro @PO (And.intro @Pj (And.intro @RF (And.intro @Sj (And.intro @PY (And.intro @Qy (And.intro @RN (And.intro @Wr (And.intro @N8 (And.intro @Q9 (And.intro @Tc (And.intro @JP (And.intro @Ix (And.intro @Aae (@Aaf)))))))))))))))))))))))))))))
theorem EL:type_of% (And.intro @PL (And.intro @NP (And.intro @OS (And.intro @PR (And.intro @YA (And.intro @m_kh (And.intro @Pn (And.intro @Tb (And.intro @ND (And.intro @OD (And.intro @Mm (And.intro @Ht (And.intro @O0 (And.intro @jH (And.intro @SQ (And.intro @HY (And.intro @st_s (And.intro @NM (And.intro @Rd (And.intro @HR (And.intro @Iy (And.intro @YD (And.intro @Q8 (And.intro @SN (And.intro @Aah (And.intro @Aag (And.intro @W3 (And.intro @co_b (And.intro @co_s (And.intro @Vq (And.intro @Sm (And.intro @Rk (And.intro @Om (And.intro @Ox (And.intro @Zl (And.intro @t_q (And.intro @t_a1 (And.intro @X7 (And.intro @t_st (And.intro @k_k (And.intro @NT (And.intro @oi_0 (And.intro @Wp (And.intro @m_k (And.intro @m_e (And.intro @m_h (And.intro @m_l (And.intro @true_and (@and_true))))))))))))))))))))))))))))))))))))))))))))))))):=And.intro @PL (And.intro @NP (And.intro @OS (And.intro @PR (And.intro @YA (And.intro @m_kh (And.intro @Pn (And.intro @Tb (And.intro @ND (And.intro @OD (And.intro @Mm (And.intro @Ht (And.intro @O0 (And.intro @jH (And.intro @SQ (And.intro @HY (And.intro @st_s (And.intro @NM (And.intro @Rd (And.intro @HR (And.intro @Iy (And.intro @YD (And.intro @Q8 (And.intro @SN (And.intro @Aah (And.intro @Aag (And.intro @W3 (And.intro @co_b (And.intro @co_s (And.intro @Vq (And.intro @Sm (And.intro @Rk (And.intro @Om (And.intro @Ox (And.intro @Zl (And.intro @t_q (And.intro @t_a1 (And.intro @X7 (And.intro @t_st (And.intro @k_k (And.intro @NT (And.intro @oi_0 (And.intro @Wp (And.intro @m_k (And.intro @m_e (And.intro @m_h (And.intro @m_l (And.intro @true_and (@and_true))))))))))))))))))))))))))))))))))))))))))))))))
end Go.AM
namespace Go.AM
def Nk:Value→AV
 | .bool b=>.bool b
 | .int k n=>.int k n
 | .string s=>.str s
 | .pointer none=>.nilp
 | .slice none o c=>bif o == 0 then (bif c == 0 then .nils else .opq (.slice none o c))else .opq (.slice none o c)
 | .nilFunc=>.nilf
 | v=>.opq v
def MM:List Value→List AV
 | []=>[]
 | v::l=>Nk v::MM l
def cdV:Value→AV
 | .agg cs=>.agg (MM cs.toList)
 | v=>Nk v
def qI:Operand→X
 | .tmp t=>.t t
 | .const v=>.c (cdV v)
 | .global g=>.g g
 | .func f=>.c (.fn f [] [])
def FH:List Operand→List X
 | []=>[]
 | x::l=>qI x::FH l
def Ll:Option Operand→Option X
 | none=>none
 | some x=>some (qI x)
def yY:List (Nat×TI)→Nat→TI
 | [],_=>default
 | p::l,t=>bif p.1 == t then p.2 else yY l t
def Ui(L:List (Nat×TI)):List (Nat×Nat)→Nat→Nat×Nat
 | [],_=>(0,0)
 | p::_,0=>(p.1,(yY L p.2).size)
 | _::l,n+1=>Ui L l n
def E3(L:List (Nat×TI))(t:Nat):TI:=match (yY L t).kd with
 | .slice e=>yY L e
 | _=>default
def cdQ(ti:TI):EK:=match ti.kd with
 | .int _|.str=>.num
 | .bool=>.bool
 | .strct _=>match ti.plainEq with|some ks=>.agg ks|none=>.num
 | .ptr _=>.nilp
 | .slice _=>.nils
 | .fn=>.nilf
 | _=>.iface
def cdL(L:List (Nat×TI))(t:Nat):SK:=match (yY L t).kd with
 | .slice e=>.sl (yY L e).size
 | .arr n _=>.arr n
 | _=>.str
def cdK(L:List (Nat×TI))(c:Call):I:=match c.callee with
 | .value f=>.call (qI f) (FH c.args.toList)
 | .invoke _ _=>.bad
 | .builtin b=>match b,c.argTypes.toList,c.args.toList with
  | .len,[t],[x]=>match (yY L t).kd with
   | .str=>.len true (qI x)
   | .slice _=>.len false (qI x)
   | .arr n _=>.lenc n
   | _=>.bad
  | .cap,[_],[x]=>.cap (qI x)
  | .append,[t,tx],[x,y]=>match (yY L tx).kd with
   | .str=>.app (E3 L t).size (E3 L t).bytes (E3 L t).zero true (qI x) (qI y)
   | .slice _=>.app (E3 L t).size (E3 L t).bytes (E3 L t).zero false (qI x) (qI y)
   | .int _=>.appz (E3 L t).size (E3 L t).bytes (E3 L t).zero (qI x) (qI y)
   | _=>.bad
  | .clear,[t],[x]=>.clr (E3 L t).size (E3 L t).zero (qI x)
  | .max,_,xs=>.mm true (FH xs)
  | .min,_,xs=>.mm false (FH xs)
  | _,_,_=>.bad
def cdP(L:List (Nat×TI))(fs:List (Nat×Nat)):List (Nat×Operand)→List (Nat×Nat×X)
 | []=>[]
 | p::l=>((Ui L fs p.1).1,(Ui L fs p.1).2,qI p.2)::cdP L fs l
def Nb(n:Nat):List (Nat×Operand)→List (Nat×Nat×X)
 | []=>[]
 | p::l=>(p.1*n,n,qI p.2)::Nb n l
def Nj:List (Nat×Operand)→List (Nat×X)
 | []=>[]
 | p::l=>(p.1,qI p.2)::Nj l
def cdI(L:List (Nat×TI)):Op→I
 | .move x=>.mov (qI x)
 | .assign x=>.mov (qI x)
 | .pick c a b=>.pick (qI c) (qI a) (qI b)
 | .alloc e=>.alloc (yY L e).zero
 | .box _ x=>.box (qI x)
 | .build t parts=>match (yY L t).kd with
  | .strct fs=>.build (yY L t).zero (cdP L fs parts.toList)
  | .arr _ e=>.build (yY L t).zero (Nb (yY L e).size parts.toList)
  | _=>.bad
 | .buildSlice t len parts=>.bsl (E3 L t).size len (E3 L t).zero (Nj parts.toList)
 | .load t a=>.load (yY L t).size (yY L t).isAgg (qI a)
 | .store t a x=>.store (yY L t).size (qI a) (qI x)
 | .nilCheck x=>.nilchk (qI x)
 | .binOp op t x y _=>.bin op (cdQ (yY L t)) (qI x) (qI y)
 | .unOp op _ x=>.un op (qI x)
 | .convert src dst x=>match (yY L src).kd,(yY L dst).kd with
  | .int _,.int k=>.cvi k (qI x)
  | .str,.str=>.cvs (qI x)
  | .str,.slice _=>.cvb (qI x)
  | .slice _,.str=>.cvt (qI x)
  | _,_=>.bad
 | .makeFunc (.func f) first caps=>.mkf f (FH first.toList) (FH caps.toList)
 | .makeSlice t l c=>.mks (E3 L t).size (E3 L t).bytes (E3 L t).zero (qI l) (qI c)
 | .slice t x lo hi mx=>.slice (cdL L t) (qI x) (Ll lo) (Ll hi) (Ll mx)
 | .fieldAddr t x f=>match (yY L t).kd with
  | .strct fs=>.fld (Ui L fs f).1 (qI x)
  | _=>.bad
 | .indexAddr t x ix=>match (yY L t).kd with
  | .slice e=>.idxs (yY L e).size (qI x) (qI ix)
  | .arr n e=>.idxa n (yY L e).size (qI x) (qI ix)
  | _=>.bad
 | .index t x ix=>match (yY L t).kd with
  | .str=>.idxstr (qI x) (qI ix)
  | .arr n e=>.idxagg n (yY L e).size (yY L e).isAgg (qI x) (qI ix)
  | _=>.bad
 | .extract x i=>.extr (qI x) i
 | .call c=>cdK L c
 | _=>.bad
def cdO(L:List (Nat×TI))(o:Oper):O:=⟨o.dst,o.guard,cdI L o.op⟩
def cdA(ops:Array Oper):List (List Nat):=ops.toList.map fun o=>o.after.toList.filterMap fun e=>if Region.binds .any e then some e.on else none
def KB(L:List (Nat×TI)):List Oper→List O
 | []=>[]
 | o::l=>cdO L o::KB L l
def uM:Code→List (Array Oper)
 | .region _ ops true=>[ops]
 | .seq a b=>uM a++uM b
 | .cond _ a b=>uM a++uM b
 | .block _ c=>uM c
 | .loop c=>uM c
 | _=>[]
def Tk(f:Func)(i:Nat):Array Oper:=((uM (match f.body with|some c=>c|none=>.skip))[i]?).getD #[]
def rgO(L:List (Nat×TI))(f:Func)(i:Nat):List O:=KB L (Tk f i).toList
def rgA(f:Func)(i:Nat):List (List Nat):=cdA (Tk f i)
def Ga(L:List (Nat×TI))(R:Nat→List O×List (List Nat)):Code→Nat→C×Nat
 | .skip,n=>(.skip,n)
 | .region _ ops false,n=>(.reg (KB L ops.toList),n)
 | .region _ _ true,n=>(.regD (R n).1 (R n).2,n+1)
 | .seq a b,n=>(.seq (Ga L R a n).1 (Ga L R b (Ga L R a n).2).1,(Ga L R b (Ga L R a n).2).2)
 | .cond c a b,n=>(.cond (qI c) (Ga L R a n).1 (Ga L R b (Ga L R a n).2).1,(Ga L R b (Ga L R a n).2).2)
 | .block id c,n=>(.block id (Ga L R c n).1,(Ga L R c n).2)
 | .loop c,n=>(.loop (Ga L R c n).1,(Ga L R c n).2)
 | .exit id,n=>(.exit id,n)
 | .ret,n=>(.ret,n)
 | _,n=>(.skip,n)
def Zt(L:List (Nat×TI))(R:Nat→List O×List (List Nat))(f:Func):C:=(Ga L R (match f.body with|some c=>c|none=>.skip) 0).1
def R0:Nat→List O×List (List Nat):=fun _=>([],[])
inductive zH {α:Type}:α→α→Prop
 | rfl (c:α):zH c c
variable {P:Program} {Θ:ub} {Γ:bG}
theorem zH.eq{α:Type}{a b:α}(h:zH a b):a=b:=by cases h;rfl
theorem a_ddx{os os':List O}{af:List (List Nat)}{n:Nat}{d:D}(ho:zH os os')(hn:os.length=n)(h:sched os af n (List.replicate n false)=some d)(gl:Gl)(Q:AE→St→Prop)(s:St):aw P Θ Γ gl (.regD os af) Q s=fy P Γ gl os' (Q .normal) n d s:=by
 rw[←ho.eq];exact qL hn h gl Q s
theorem VV{os os':List O}{af:List (List Nat)}(ho:zH os os')(h:MG os af=true)(gl:Gl)(Q:AE→St→Prop)(s:St):aw P Θ Γ gl (.regD os af) Q s=jS P Γ gl os' os' (Q .normal) s:=by
 rw[←ho.eq];exact Tr h gl Q s
end Go.AM
namespace Go.AM
section
variable {P:Program} {Θ:ub} {Γ:bG}
def UD(agg:Bool)(x:List AV):AV:=if agg=true then .agg x else x.getD 0 .any
def MX(agg:Bool)(sz:Nat)(x:List AV):Prop:=x.length=sz∧(agg=true∨sz=1)
theorem DZ{agg:Bool}{sz:Nat}{x:List AV}(h:MX agg sz x):(sub x 0 sz).bind (nY agg)=some (UD agg x):=by
 obtain⟨h1,h2⟩:=h;simp only[sub,Nat.zero_add,List.drop_zero];rw[if_pos (by omega),List.take_of_length_le (by omega)];rcases h2 with rfl|rfl
 ·rfl
 ·cases agg
  ·match x,h1 with
   | [a],_=>rfl
  ·rfl
def Ci(sz:Nat)(agg:Bool):C:=.seq (.reg [⟨(some 4),none,.mov (.c (.int .i64 0))⟩]) (.seq (.seq (.reg [⟨(some 6),none,.mov (.t 0)⟩,
 ⟨(some 7),none,.len false (.t 6)⟩,
 ⟨(some 8),none,.mov (.c (.int .i64 0))⟩]) (.block 0 (.loop (.seq (.reg [⟨(some 9),none,.bin .lss (.num) (.t 8) (.t 7)⟩]) (.seq (.cond (.t 9) (.skip) (.exit 0)) (.seq (.block 1 (.seq (.reg [⟨(some 10),none,.mov (.t 8)⟩,
 ⟨(some 5),none,.mov (.t 10)⟩]) (.seq (.reg [⟨(some 11),none,.mov (.t 1)⟩,
 ⟨(some 12),none,.mov (.t 0)⟩,
 ⟨(some 13),none,.mov (.t 5)⟩,
 ⟨(some 14),none,.idxs sz (.t 12) (.t 13)⟩,
 ⟨(some 15),none,.load sz agg (.t 14)⟩,
 ⟨(some 16),none,.call (.t 11) [.t 15]⟩]) (.cond (.t 16) (.seq (.reg [⟨(some 17),none,.mov (.t 5)⟩,
 ⟨(some 4),none,.mov (.t 17)⟩]) (.ret)) (.skip))))) (.reg [⟨(some 18),none,.bin .add (.num) (.t 8) (.c (.int .i64 1))⟩,
 ⟨(some 8),none,.mov (.t 18)⟩]))))))) (.seq (.reg [⟨(some 4),none,.mov (.c (.int .i64 (-1)))⟩]) (.ret)))
abbrev Mh(P:Program)(Θ:ub)(Γ:bG)(f:FuncId)(c:C)(rs:List RS)(us:List AV):Prop:=
 ∀{a0 a1:AV} {h:AH} {K:AV→AH→Prop},TC P Θ Γ c (aV rs K) ⟨a0::a1::us,[],h⟩→T P Γ f [a0,a1] h K
end
end Go.AM
