import Derived.Test.YtolciaflplefcaaGreatAmG3
import Derived.Deep.LoopGhost
set_option linter.unusedVariables false
set_option linter.unusedSimpArgs false
open List renaming mem_of_getElem?→Aaa,mem_iff_getElem?→Aab,getElem?_append_right→Aae,getElem?_append_left→Aaf,getElem?_replicate→Aag,all_eq_true→Aaj,getElem?_eq_getElem→Aal,length_eq_zero_iff→Aam,mapM_cons→Aan
open Nat renaming add_assoc→Aac,lt_or_ge→Aad,not_lt→Aai
open Option renaming map_eq_some_iff→Aah
open Bool renaming false_eq_true→Aak
namespace Go.AM
section
variable {P:Program} {Θ:ub} {Γ:bG}
inductive RS where
 | t (n:Nat)|cell (a n:Nat) (agg:Bool)
def Mz(Θ:ub):ResultVar→Option RS
 | .tmp t=>some (.t t)
 | .cell a t=>(Θ t).map fun ti=>.cell a ti.size ti.isAgg
def ym(s:St):RS→Option AV
 | .t n=>some (s.env.getD n .any)
 | .cell a n agg=>(s.cells (s.env.getD a .any) n).bind (nY agg)
def gq:AV→Bool
 | .agg cs=>cs.all bM
 | v=>bM v
def cY:AV→Bool
 | .tup vs=>vs.all gq
 | v=>gq v
theorem AY{ρ ls v cv}(r:RV ρ ls v cv)(hout:gq v=true)(ls':List Nat):RV ρ ls' v cv:=by
 cases r with
 | agg _ cs vs h1 r=>
  simp only[gq]at hout;exact .agg _ _ _ h1 (fun i x hx=>(r i x hx).bM (Aaj.1 hout x (Aaa hx)) ls')
 | any=>simp[gq,bM]at hout
 | lp=>simp[gq,bM]at hout
 | tup=>simp[gq,bM]at hout
 | bool _ b=>exact .bool _ _
 | int _ k n=>exact .int _ _ _
 | str=>exact .str _ _
 | nilp=>exact .nilp _
 | nils=>exact .nils _
 | nilf=>exact .nilf _
 | opq=>exact .opq _ _
 | gp _ b g off c o n h1=>exact .gp _ b g off c o n h1
 | ip _ β cs c o f h1 h2=>exact .ip _ β cs c o f h1 h2
 | gs _ b g off len cap sz ex c o n cap' h h1 h2 h3 h4=>exact .gs _ b g off len cap sz ex c o n cap' h h1 h2 h3 h4
 | gs0 _ b g off sz ex c o n a h=>exact .gs0 _ b g off sz ex c o n a h
 | vs _ β sz ex xs c o cap' f h1 h2 h3 h4 r=>exact .vs _ β sz ex xs c o cap' f h1 h2 h3 h4 r
 | vs0 _ β sz ex a cap' h2=>exact .vs0 _ β sz ex a cap' h2
 | vsn _ β sz ex=>exact .vsn _ β sz ex
 | fn _ f first caps first' caps' h1 h2 r1 r2=>
  exact(RV.fn ls f first caps first' caps' h1 h2 r1 r2).bM (by simpa[gq]using hout) ls'
theorem Kt{ρ ls v cv}(r:RV ρ ls v cv)(h:cY v=true)(ls':List Nat):RV ρ ls' v cv:=by
 by_cases ht:∃vs,v=.tup vs
 ·obtain⟨vs,rfl⟩:=ht;cases r with
  | tup _ cs us h1 r=>
   simp only[cY]at h;exact .tup _ _ _ h1 (fun i x hx=>AY (r i x hx) (Aaj.1 h x (Aaa hx)) ls')
 ·refine AY r ?_ ls';cases v<;>first|exact absurd ⟨_,rfl⟩ ht|exact h
def Bw(s:St)(rs:List RS):Option AV:=
 match rs with
 | [r]=>ym s r
 | rs=>(rs.mapM (ym s)).map .tup
def aV(rs:List RS)(K:AV→AH→Prop):AE→St→Prop
 | .exit _,_=>False
 | _,s=>match Bw s rs with
  | some v=>cY v=true∧K v s.heap
  | none=>False
theorem JO(tab:iO P Θ){ρ ls s a w}(rel:Rel Γ ρ ls s a w){rv:ResultVar}{r:RS}(hr:Mz Θ rv=some r){v:AV}(h:ym s r=some v):
 ∃cv,(match rv with|.tmp t=>pure (a.tmps.getD t undef)|.cell b t=>do loadVar t (←asAddr (a.tmps.getD b undef)):Sem Value).run P w=.ok cv w∧RV ρ ls v cv:=by
 have env:∀n,RV ρ ls (s.env.getD n .any) (a.tmps.getD n undef):=fun n=>by
  have:=bu rel (.tmp n);exact this
 cases rv with
 | tmp t=>
  simp[Mz]at hr;subst hr;simp[ym]at h;subst h;exact⟨_,rfl,by simpa using env t⟩
 | cell b t=>
  simp only[Mz]at hr;obtain⟨ti,tf,rfl⟩:=uI tab hr;simp only[ym]at h;obtain⟨cs,h1,h2⟩:=qd h;obtain⟨c,o,vals,e1,_⟩:=uX rel.mem (env b) h1;obtain⟨cv,g1,g2⟩:=Hy (P:=P) rel.mem tf (env b) (by rw[h1];simpa using h2);refine⟨cv,?_,g2⟩;simp only;rw[e1]at g1 ⊢;simpa[Instr.loadAt,Instr.sureAddr,asAddr]using g1
theorem Fl(tab:iO P Θ){ρ ls s a w}(rel:Rel Γ ρ ls s a w){fn:Func}{rs:List RS}(hr:fn.results.toList.mapM (Mz Θ)=some rs){v:AV}(h:Bw s rs=some v):
 ∃cv,(results fn a.tmps).run P w=.ok cv w∧RV ρ ls v cv:=by
 have key:∀(l:List ResultVar) (rs:List RS) (vs:List AV),l.mapM (Mz Θ)=some rs→rs.mapM (ym s)=some vs→
  ∃cvs:List Value,(l.mapM fun rv=>(match rv with|.tmp t=>pure (a.tmps.getD t undef)|.cell b t=>do loadVar t (←asAddr (a.tmps.getD b undef)):Sem Value)).run P w=.ok cvs w∧kX ρ ls vs cvs:=by
  intro l
  induction l with
  | nil=>
   intro rs vs h1 h2;simp at h1;subst h1;simp at h2;subst h2;exact⟨[],rfl,rfl,fun i x hx=>by simp at hx⟩
  | cons rv l ih=>
   intro rs vs h1 h2;rw[Aan]at h1;cases hrv:Mz Θ rv with
   | none=>simp[hrv]at h1
   | some r=>
    cases hl:l.mapM (Mz Θ)with
    | none=>simp[hrv,hl]at h1
    | some rs'=>
     simp[hrv,hl]at h1;subst h1;rw[Aan]at h2;cases hv:ym s r with
     | none=>simp[hv]at h2
     | some v=>
      cases hvs:rs'.mapM (ym s)with
      | none=>simp[hv,hvs]at h2
      | some vs'=>
       simp[hv,hvs]at h2;subst h2;obtain⟨cv,e1,e2⟩:=JO tab rel hrv hv;obtain⟨cvs,e3,e4⟩:=ih rs' vs' hl hvs;refine⟨cv::cvs,?_,kX.append (cs:=[v]) (vs:=[cv]) ⟨rfl,fun i x hx=>by
        cases i with
        | zero=>simp at hx;subst hx;exact e2
        | succ i=>simp at hx⟩ e4⟩
       rw[Aan];simp only[Sem.run_bind,e1,Result.andThen_ok,e3,Sem.run_pure]
 have fin:∀vs,rs.mapM (ym s)=some vs→∃cvs:List Value,kX ρ ls vs cvs∧(results fn a.tmps).run P w=.ok (if h:cvs.toArray.size=1 then cvs.toArray[0]else .tuple cvs.toArray) w:=by
  intro vs hvs;obtain⟨cvs,e1,e2⟩:=key _ _ _ hr hvs;refine⟨cvs,e2,?_⟩;unfold results;rw[Array.mapM_eq_mapM_toList];simp only[Sem.run_bind,Sem.run_map];exact congrArg (fun r:Result (List Value)=>(r.andThen fun a w'=>Result.ok a.toArray w').andThen fun a w'=>Sem.run P (pure (if h:a.size=1 then a[0]else Value.tuple a)) w') e1
 unfold Bw at h;split at h
 ·rename_i r;obtain⟨cvs,e1,e2⟩:=fin [v] (by simp[h])
  match cvs,e1 with
  | [cv],e1=>exact⟨cv,by rw[e2];rfl,e1.2 0 v rfl⟩
 ·rename_i rs' hne;cases hvs:rs.mapM (ym s)with
  | none=>simp[hvs]at h
  | some vs=>
   simp[hvs]at h;subst h;obtain⟨cvs,e1,e2⟩:=fin vs hvs;have hl:=(pJ hvs).1;have hn:cvs.toArray.size≠1:=by
    intro h1;have:rs.length=1:=by have:=e1.1;simp at h1;omega
    obtain⟨r,hr1⟩:=List.length_eq_one_iff.1 this;exact hne r hr1
   refine⟨.tuple cvs.toArray,by rw[e2,dif_neg hn],.tup _ _ _ (by simpa using e1.1) (fun i x hx=>by have:=e1.2 i x hx;simpa using this)⟩
theorem I3(tab:iO P Θ){f:FuncId}{fn:Func}{code:Code}{c:C}{rs:List RS}{args:List AV}{h:AH}{K:AV→AH→Prop}
 (hf:P.funcs[f]? = some fn) (hb:fn.body=some code) (hn:(fn.name == "runtime.NumGoroutine")=false) (hc:sN Θ code=some c) (hr:fn.results.toList.mapM (Mz Θ)=some rs)
 (hw:TC P Θ Γ c (aV rs K) ⟨args++List.replicate (fn.ntmps-args.length) (.tup []),[],h⟩):T P Γ f args h K:=by
 refine⟨⟨fn,code,hf,hb,hn⟩,fun ρ w cargs hm hg ha=>?_⟩;refine calls_of_wp hf hb ?_;have hrel:Rel Γ ρ [] ⟨args++List.replicate (fn.ntmps-args.length) (.tup []),[],h⟩ { tmps:=cargs.toArray++Array.replicate (fn.ntmps-cargs.toArray.size) undef,defers:=[] } w:=by
  refine⟨rfl,by simp[ha.1],fun i x hx=>?_,hm,hg⟩;have hl:=ha.1;by_cases hi:i<args.length
  ·rw[Aaf hi]at hx;have:=ha.2 i x hx;have hi':i<cargs.length:=by omega
   simp only[List.getD_eq_getElem?_getD,Aal hi',Option.getD_some]at this;simp[Array.getElem?_append,hi'];exact this
  ·rw[Aae (by omega)]at hx;have hlt:=aL hx;simp at hlt;rw[Aag,if_pos hlt]at hx;injection hx with hx
   subst hx;have:¬i<cargs.length:=by omega
   simp[Array.getElem?_append,this,Array.getElem?_replicate,show i-cargs.length<fn.ntmps-cargs.length by omega];exact mr
 refine wp_mono (hw code hc ρ [] h w ρ [] _ w (.refl _ _ _ _) hrel) ?_;have fin:∀(a':Act) (w':World) (s':St) (ρ':j9) (ls':List Nat),Rel Γ ρ' ls' s' a' w'→ua ρ [] h w ρ' ls' s'.heap w'→(match Bw s' rs with|some v=>cY v=true∧K v s'.heap|none=>False)→
  a'.defers=[]∧∃v,(results fn a'.tmps).run P w'=.ok v w'∧∃av cv ρ'' h',Ending.returned v=.returned cv∧RV ρ'' [] av cv∧RH ρ'' [] [] h' w'∧ua ρ [] h w ρ'' [] h' w'∧K av h':=by
  intro a' w' s' ρ' ls' hrel hev hq;cases ho:Bw s' rs with
  | none=>simp[ho]at hq
  | some v=>
   simp only[ho]at hq;obtain⟨cv,e1,e2⟩:=Fl tab hrel hr ho;refine⟨hrel.defers,cv,e1,v,cv,ρ',s'.heap,rfl,Kt e2 hq.1 [],?_,?_,hq.2⟩
   ·have m:=hrel.mem;exact⟨m.hp,fun i cs hi=>by simp at hi,rfl,fun i j c h=>by simp at h,m.hh,fun _ _ _ _ _ _ _ _ _ h=>by simp at h,m.im,fun _ _ _ _ _ h=>by simp at h,m.imh,m.dom⟩
   ·exact⟨hev.le,.nil _,hev.sz,hev.fr,hev.own,fun i c h=>by simp at h,hev.imo,hev.len,hev.os,hev.out⟩
 rintro e a' w' ⟨s',ρ',ls',hrel,hev,hq⟩;cases e with
 | normal=>exact fin a' w' s' ρ' ls' hrel hev hq
 | ret=>exact fin a' w' s' ρ' ls' hrel hev hq
 | exit id=>exact hq.elim
 | goto l=>exact hq.elim
 | panic ch=>exact hq.elim
 | outgrown=>exact hq.elim
def gM(x y:AV):Prop:=y=.any∨x=y∨∃b g off len cap sz,x=.gs b g off len cap sz true∧y=.gs b g off len cap sz false
theorem gM.any(x:AV):gM x .any:=.inl rfl
theorem gM.Vh(x:AV):gM x x:=.inr (.inl rfl)
theorem gM.ex(b g off len cap sz:Nat)(ex:Bool):gM (.gs b g off len cap sz ex) (.gs b g off len cap sz false):=by
 cases ex
 ·exact .Vh _
 ·exact .inr (.inr ⟨b,g,off,len,cap,sz,rfl,rfl⟩)
theorem gM.RV{x y:AV}(h:gM x y){ρ ls v}(r:RV ρ ls x v):RV ρ ls y v:=by
 rcases h with rfl|rfl|⟨b,g,off,len,cap,sz,rfl,rfl⟩
 ·exact .any _ _
 ·exact r
 ·cases r with
  | gs _ _ _ _ _ _ _ _ c o n cap' h h1 h2 h3 h4=>exact .gs _ b g off len cap sz false c o n cap' h h1 h2 (by simp) h4
  | gs0 _ _ _ _ _ _ c o n a h=>exact .gs0 _ b g off sz false c o n a h
def gW:List AV→List AV→Prop
 | [],[]=>True
 | x::xs,y::ys=>gM x y∧gW xs ys
 | _,_=>False
theorem gW.spec:∀{xs ys:List AV},gW xs ys→xs.length=ys.length∧∀(i:Nat) y,ys[i]? = some y→∃x,xs[i]? = some x∧gM x y
 | [],[],_=>⟨rfl,fun i y h=>by simp at h⟩
 | x::xs,y::ys,h=>by
  obtain⟨h1,h2⟩:=gW.spec h.2;refine⟨by simp[h1],fun i z hz=>?_⟩;cases i with
  | zero=>simp at hz;subst hz;exact⟨x,rfl,h.1⟩
  | succ i=>exact h2 i z (by simpa using hz)
 | [],_::_,h=>h.elim
 | _::_,[],h=>h.elim
theorem gW.refl:∀(xs:List AV),gW xs xs
 | []=>trivial
 | x::xs=>⟨.Vh x,gW.refl xs⟩
structure Le (s t:St):Prop where
 env:gW s.env t.env
 loc:s.loc=t.loc
 heap:s.heap=t.heap
theorem Le.refl(s:St):Le s s:=⟨.refl _,rfl,rfl⟩
theorem Le.rel{s t:St}(h:Le s t){ρ ls a w}(r:Rel Γ ρ ls s a w):Rel Γ ρ ls t a w:=by
 obtain⟨h1,h2⟩:=h.env.spec;refine⟨r.defers,by rw[←h1];exact r.size,fun i y hy=>?_,by rw[←h.loc,←h.heap];exact r.mem,r.glob⟩;obtain⟨x,hx,hl⟩:=h2 i y hy;exact hl.RV (r.env i x hx)
theorem TC.le{c:C}{Q:AE→St→Prop}{s t:St}(h:Le s t)(ht:TC P Θ Γ c Q t):TC P Θ Γ c Q s:=
 fun code hc ρ₀ ls₀ h₀ w₀ ρ ls a w ev rel=>ht code hc ρ₀ ls₀ h₀ w₀ ρ ls a w (by rw[←h.heap];exact ev) (h.rel rel)
theorem DF(tab:iO P Θ)(gl:Gl){c:C}{Q:AE→St→Prop}{α:Type}(μ:α→Nat)(st:α→St)
 (round:∀x,yl P Θ Γ gl c (nt (fun s'=>∃y,μ y<μ x∧Le s' (st y)) Q) (st x)):∀x,TC P Θ Γ (.loop c) Q (st x):=by
 intro x code hc;cases code with
 | loop body=>
  simp only[sN]at hc;cases hb:sN Θ body with
  | none=>simp[hb]at hc
  | some cb=>
   simp[hb]at hc;subst hc;intro ρ₀ ls₀ h₀ w₀ ρ ls a w ev rel;refine wp_loop_ghost (fun n a w=>∃x ρ ls,μ x=n∧ua ρ₀ ls₀ h₀ w₀ ρ ls (st x).heap w∧Rel Γ ρ ls (st x) a w) (μ x) ⟨x,ρ,ls,rfl,ev,rel⟩ ?_;rintro n a w ⟨x,ρ,ls,rfl,ev,rel⟩;refine wp_mono (Dz tab gl body cb _ _ hb (round x) ρ₀ ls₀ h₀ w₀ ρ ls a w ev rel) ?_;rintro e a' w' ⟨s',ρ',ls',hrel,hev,hq⟩;cases e<;>simp only[nt,Exit.then]at hq ⊢
   ·obtain⟨y,hy,hle⟩:=hq;exact⟨μ y,hy,y,ρ',ls',rfl,by rw[←hle.heap];exact hev,hle.rel hrel⟩
   ·exact⟨s',ρ',ls',hrel,hev,hq⟩
   ·exact⟨s',ρ',ls',hrel,hev,hq⟩
 | skip=>simp[sN]at hc
 | region id ops draw=>
  cases draw<;>simp only[sN,Aah]at hc<;>obtain⟨_,_,h⟩:=hc<;>cases h
 | seq x y=>
  simp only[sN]at hc;obtain⟨_,_,hc⟩:=qd hc;rw[Aah]at hc;obtain⟨_,_,h⟩:=hc;cases h
 | cond x y z=>
  simp only[sN]at hc;obtain⟨_,_,hc⟩:=qd hc;rw[Aah]at hc;obtain⟨_,_,h⟩:=hc;cases h
 | block id x=>
  simp only[sN,Aah]at hc;obtain⟨_,_,h⟩:=hc;cases h
 | exit=>simp[sN]at hc
 | ret=>simp[sN]at hc
 | _=>simp[sN]at hc
end
end Go.AM
namespace Go.AM
section
variable {P:Program} {Θ:ub} {Γ:bG}
theorem RH.bare{ρ ls L h w}(m:RH ρ ls L h w):RH ρ [] [] h w:=
 ⟨m.hp,fun i cs hi=>by simp at hi,rfl,fun i j c h=>by simp at h,m.hh,fun _ _ _ _ _ _ _ _ _ h=>by simp at h,m.im,fun _ _ _ _ _ h=>by simp at h,m.imh,m.dom⟩
theorem RH.zG{ρ ls L h w}(m:RH ρ ls L h w){i c:Nat}(hi:ls[i]? = some c):c<w.heap.size:=by
 have hlt:=aL hi;obtain⟨c',arr,T,fr,h1,h2,_⟩:=m.lp i _ (Aal (show i<L.length by rw[←m.len];exact hlt));rw[hi]at h1;injection h1 with h1
 subst h1;rcases Aad c w.heap.size with h|h
 ·exact h
 ·rw[Array.getElem?_eq_none h]at h2;cases h2
theorem RH.Lj{ρ ls L h w}(m:RH ρ ls L h w){β c arr}(hi:ρ.imm β c=some arr):c<w.heap.size:=by
 obtain⟨T,fr,h2⟩:=m.im _ _ _ hi;rcases Aad c w.heap.size with h|h
 ·exact h
 ·rw[Array.getElem?_eq_none h]at h2;cases h2
theorem RH.under{ρ ls L h w ρ' h' w'}(m:RH ρ ls L h w)(m':RH ρ' [] [] h' w')(ev:ua ρ [] h w ρ' [] h' w'):RH ρ' ls L h' w':=by
 refine⟨m'.hp,?_,m.len,m.nod,m'.hh,?_,m'.im,?_,m'.imh,m'.dom⟩
 ·intro i cs hi;obtain⟨c,arr,T,fr,h1,h2,h3,h4,h5⟩:=m.lp i cs hi;refine⟨c,arr,T,fr,h1,?_,h3,h4,fun j x hx=>let ⟨y,e1,e2⟩:=h5 j x hx;⟨y,e1,e2.mono ev.le (.refl _)⟩⟩;rw[ev.fr c (m.zG h1) ?_]
  ·exact h2
  ·rintro(⟨j,t⟩|⟨b,g,cs,o,n,t1,t2⟩)
   ·simp at t
   ·exact m.hl b g cs c o n i t1 t2 h1
 ·intro b g cs c o n i hb hm hi;rcases ev.own b g cs c o n hb hm with h1|⟨g0,cs0,o0,n0,h1,h2⟩
  ·have:=m.zG hi;omega
  ·exact m.hl b g0 cs0 c o0 n0 i h1 h2 hi
 ·intro β c arr i hm hi;exact m.iml β c arr i (ev.imo β c arr (m.zG hi) hm) hi
theorem ua.under{ρ ls h w ρ' h' w'}(ev:ua ρ [] h w ρ' [] h' w'):ua ρ ls h w ρ' ls h' w':=
 ⟨ev.le,.refl _,ev.sz,fun c hc ht=>ev.fr c hc (fun t=>ht (by
  rcases t with⟨i,t⟩|t
  ·simp at t
  ·exact .inr t)),ev.own,fun i c h=>.inr h,ev.imo,ev.len,ev.os,ev.out⟩
theorem al.ref{f:FuncId}{args:List AV}{s:St}{Q:AV→AH→Prop}{K:AV→St→Prop}(ho:args.all gq=true)(t:T P Γ f args s.heap Q)
 (hq:∀v h',Q v h'→K v { s with heap:=h' }):al P Γ f args s K:=by
 intro ρ ls w cargs m g ra;refine⟨t.1,(t.2 ρ w cargs m.bare g ⟨ra.1,fun i x hx=>AY (ra.2 i x hx) (Aaj.1 ho x (Aaa hx)) []⟩).mono ?_⟩;rintro e w' ⟨v,cv,ρ',h',rfl,r1,r2,r3,q⟩;exact⟨cv,v,{ s with heap:=h' },ρ',ls,rfl,rfl,r1.mono (.refl _) (.nil _),m.under r2 r3,r3.under,hq _ _ q⟩
inductive ou (h:AH):AV→AV→Prop
 | same (x:AV):ou h x x
 | any (x:AV):ou h x .any
 | nil (sz:Nat) (ex:Bool):ou h .nils (.vs true sz ex [])
 | gp (b g off:Nat) (cells cs:List AV) (f:Nat→AV) (h1:h[b]? = some (some (g,cells)))
  (h2:∀(j:Nat) (x:AV),cs[j]? = some x→cells[off+j]? = some (f j)) (r:∀(j:Nat) (x:AV),cs[j]? = some x→ou h (f j) x):ou h (.gp b g off) (.ip true cs)
 | gs (b g off len cap sz:Nat) (ex ex':Bool) (cells:List AV) (xs:List (List AV)) (f:Nat→Nat→AV) (h1:h[b]? = some (some (g,cells))) (h2:xs.length=len)
  (h3:ex'=true→ex=true∧cap=len) (h4:∀(i:Nat) (l:List AV),xs[i]? = some l→l.length=sz)
  (h5:∀(i:Nat) (l:List AV),xs[i]? = some l→∀(j:Nat) (x:AV),l[j]? = some x→cells[off+(i*sz+j)]? = some (f i j))
  (r:∀(i:Nat) (l:List AV),xs[i]? = some l→∀(j:Nat) (x:AV),l[j]? = some x→ou h (f i j) x):ou h (.gs b g off len cap sz ex) (.vs true sz ex' xs)
 | agg (xs ys:List AV) (h1:xs.length=ys.length) (f:Nat→AV) (h2:∀(i:Nat) (y:AV),ys[i]? = some y→xs[i]? = some (f i)) (r:∀(i:Nat) (y:AV),ys[i]? = some y→ou h (f i) y):ou h (.agg xs) (.agg ys)
 | fn (g:FuncId) (xs ys:List AV) (h1:xs.length=ys.length) (f:Nat→AV) (h2:∀(i:Nat) (y:AV),ys[i]? = some y→xs[i]? = some (f i)) (r:∀(i:Nat) (y:AV),ys[i]? = some y→ou h (f i) y):ou h (.fn g [] xs) (.fn g [] ys)
def uy(h:AH):List AV→List AV→Prop
 | [],[]=>True
 | x::xs,y::ys=>ou h x y∧uy h xs ys
 | _,_=>False
theorem uy.spec{h:AH}:∀{xs ys:List AV},uy h xs ys→xs.length=ys.length∧∀(i:Nat) y,ys[i]? = some y→∃x,xs[i]? = some x∧ou h x y
 | [],[],_=>⟨rfl,fun i y h=>by simp at h⟩
 | x::xs,y::ys,h=>by
  obtain⟨h1,h2⟩:=uy.spec h.2;refine⟨by simp[h1],fun i z hz=>?_⟩;cases i with
  | zero=>simp at hz;subst hz;exact⟨x,rfl,h.1⟩
  | succ i=>exact h2 i z (by simpa using hz)
 | [],_::_,h=>h.elim
 | _::_,[],h=>h.elim
def xn(w:World)(c:Nat):Array Value:=match w.heap[c]? with|some (.cells arr _ _)=>arr|_=>#[]
open Classical in
noncomputable def nW(ρ:j9)(h:AH)(w:World):j9 where
 m:=ρ.m
 imm:=fun β c=>if β=true then (if (ρ.imm true c).isSome=true then ρ.imm true c else if ∃b g cs o n,h[b]? = some (some (g,cs))∧ρ.m b g=some (c,o,n)then some (xn w c)else none)else ρ.imm false c
theorem Ck(ρ:j9)(h:AH)(w:World):ρ.le (nW ρ h w):=
 ⟨fun _ _ _ e=>e,fun β c x e=>by cases β<;>simp[nW,e]⟩
theorem xW{ρ:j9}{ls L h w}(m:RH ρ ls L h w){b g cs c o n}(hb:h[b]? = some (some (g,cs)))(hm:ρ.m b g=some (c,o,n)):(nW ρ h w).imm true c=some (xn w c):=by
 have:(ρ.imm true c).isSome=false:=by
  cases hi:ρ.imm true c with
  | none=>rfl
  | some arr=>exact absurd hm (m.imh true c arr b g cs o n hi hb)
 simp only[nW,if_true];rw[if_neg (by simp[this]),if_pos ⟨b,g,cs,o,n,hb,hm⟩]
theorem MI{ρ:j9}{ls L h w}(m:RH ρ ls L h w):RH (nW ρ h w) [] [] (List.replicate h.length none) w:=by
 have dead:∀{b:Nat} {x:Nat×List AV},(List.replicate h.length (none:Option (Nat×List AV)))[b]? = some (some x)→False:=by
  intro b x hb;rw[Aag]at hb;split at hb<;>simp at hb
 refine⟨fun b g cs hb=>(dead hb).elim,fun i cs hi=>by simp at hi,rfl,fun i j c h=>by simp at h,fun b g cs b' g' cs' c o n o' n' hb=>(dead hb).elim,fun _ _ _ _ _ _ _ _ _ h=>by simp at h,?_,
  fun _ _ _ _ _ h=>by simp at h,fun β c arr b g cs o n _ hb=>(dead hb).elim,fun b g c o n hm=>⟨(m.dom b g c o n hm).1,by simpa using(m.dom b g c o n hm).2.1,fun g' cs hb=>(dead hb).elim⟩⟩
 intro β c arr hi;cases β with
 | false=>exact m.im false c arr (by simpa[nW]using hi)
 | true=>
  simp only[nW,if_true]at hi;split at hi
  ·exact m.im true c arr hi
  ·split at hi
   ·rename_i hx;obtain⟨b,g,cs,o,n,h1,h2⟩:=hx;obtain⟨c',o',n',arr',T,fr,e1,e2,_⟩:=m.hp b g cs h1;rw[h2]at e1;injection e1 with e1
    injection e1 with e1 e3
    subst e1;simp only[xn,e2]at hi;injection hi with hi
    subst hi;exact⟨T,fr,e2⟩
   ·cases hi
theorem ou.view{ρ:j9}{ls L h w}(m:RH ρ ls L h w){x y:AV}(s:ou h x y):∀{v},RV ρ [] x v→RV (nW ρ h w) [] y v:=by
 induction s with
 | same x=>exact fun r=>r.mono (Ck _ _ _) (.refl _)
 | any x=>exact fun _=>.any _ _
 | nil sz ex=>
  intro v rv;cases rv;exact .vsn _ _ _ _
 | gp b g off cells cs f h1 h2 r ih=>
  intro v rv;cases rv with
  | gp _ _ _ _ c o n hm=>
   obtain⟨c',o',n',arr',T,fr,e1,e2,e3,e4,e5,e6⟩:=m.hp b g cells h1;rw[hm]at e1;injection e1 with e1
   simp only[Prod.mk.injEq]at e1;obtain⟨rfl,rfl,rfl⟩:=e1;have hi:=xW m h1 hm;simp only[xn,e2]at hi;refine .ip _ true cs c (o+off) (fun j=>arr'.getD (o+off+j) undef) (fun j x hx=>⟨arr',hi,?_⟩) (fun j x hx=>?_)
   ·obtain⟨y,g1,g2⟩:=e6 (off+j) _ (h2 j x hx);rw[Aac,g1];simp[Array.getD_eq_getD_getElem?,Aac,g1]
   ·obtain⟨y,g1,g2⟩:=e6 (off+j) _ (h2 j x hx);have:=ih j x hx g2;simpa[Array.getD_eq_getD_getElem?,Aac,g1]using this
 | gs b g off len cap sz ex ex' cells xs f h1 h2 h3 h4 h5 r ih=>
  intro v rv;cases rv with
  | gs _ _ _ _ _ _ _ _ c o n cap' hm k1 k2 k3 k4=>
   obtain⟨c',o',n',arr',T,fr,e1,e2,e3,e4,e5,e6⟩:=m.hp b g cells h1;rw[hm]at e1;injection e1 with e1
   simp only[Prod.mk.injEq]at e1;obtain⟨rfl,rfl,rfl⟩:=e1;have hi:=xW m h1 hm;simp only[xn,e2]at hi;subst h2;refine .vs _ true sz ex' xs c (o+off) cap' (fun i j=>arr'.getD (o+off+(i*sz+j)) undef) (by omega) (fun hx=>by have:=h3 hx;rw[k3 this.1,this.2]) h4
    (fun i l hl j x hx=>⟨arr',hi,?_⟩) (fun i l hl j x hx=>?_)
   ·obtain⟨y,g1,g2⟩:=e6 (off+(i*sz+j)) _ (h5 i l hl j x hx);rw[←Aac]at g1;rw[g1];simp[Array.getD_eq_getD_getElem?,g1]
   ·obtain⟨y,g1,g2⟩:=e6 (off+(i*sz+j)) _ (h5 i l hl j x hx);rw[←Aac]at g1;have:=ih i l hl j x hx g2;simpa[Array.getD_eq_getD_getElem?,g1]using this
  | gs0 _ _ _ _ _ _ c o n a hm=>
   have:xs=[]:=Aam.1 h2;subst this;exact .vs0 _ true sz ex' a 0 (fun _=>rfl)
 | agg xs ys h1 f h2 r ih=>
  intro v rv;cases rv with
  | agg _ _ vs k1 kr=>exact .agg _ _ _ (by omega) (fun i y hy=>ih i y hy (kr i _ (h2 i y hy)))
 | fn g xs ys h1 f h2 r ih=>
  intro v rv;cases rv with
  | fn _ _ _ _ fs cs k1 k2 kr1 kr2=>exact .fn _ _ _ _ _ _ k1 (by omega) (fun i y hy=>by simp at hy) (fun i y hy=>ih i y hy (kr2 i _ (h2 i y hy)))
inductive Ok (bor:Bool) (p:Nat→Prop):AV→Prop
 | any:Ok bor p .any
 | bool (b:Bool):Ok bor p (.bool b)
 | int (k:IntKind) (n:Int):Ok bor p (.int k n)
 | str (s:ByteArray):Ok bor p (.str s)
 | nilp:Ok bor p .nilp
 | nils:Ok bor p .nils
 | nilf:Ok bor p .nilf
 | opq (v:Value):Ok bor p (.opq v)
 | gp (b g off:Nat) (h:p b):Ok bor p (.gp b g off)
 | gs (b g off len cap sz:Nat) (ex:Bool) (h:p b):Ok bor p (.gs b g off len cap sz ex)
 | ip (β:Bool) (cs:List AV) (hβ:β=true→bor=true) (r:∀x∈cs,Ok bor p x):Ok bor p (.ip β cs)
 | vs (β:Bool) (sz:Nat) (ex:Bool) (xs:List (List AV)) (hβ:β=true→bor=true) (r:∀l∈xs,∀x∈l,Ok bor p x):Ok bor p (.vs β sz ex xs)
 | vs0 (β:Bool) (sz:Nat) (ex:Bool):Ok bor p (.vs β sz ex [])
 | fn (f:FuncId) (first caps:List AV) (r1:∀x∈first,Ok bor p x) (r2:∀x∈caps,Ok bor p x):Ok bor p (.fn f first caps)
 | agg (cs:List AV) (r:∀x∈cs,Ok bor p x):Ok bor p (.agg cs)
 | tup (cs:List AV) (r:∀x∈cs,Ok bor p x):Ok bor p (.tup cs)
abbrev NB(base:Nat):AV→Prop:=Ok false (fun b=>base≤b)
abbrev M5(base:Nat):AV→Prop:=Ok true (fun b=>b<base)
abbrev PV:AV→Prop:=Ok false (fun _=>False)
theorem Ok.mono{bor bor':Bool}{p p':Nat→Prop}(hb:bor=true→bor'=true)(hp:∀b,p b→p' b){x:AV}(h:Ok bor p x):Ok bor' p' x:=by
 induction h with
 | any=>exact .any
 | bool=>exact .bool _
 | int=>exact .int _ _
 | str=>exact .str _
 | nilp=>exact .nilp
 | nils=>exact .nils
 | nilf=>exact .nilf
 | opq=>exact .opq _
 | gp b g off h=>exact .gp _ _ _ (hp _ h)
 | gs b g off len cap sz ex h=>exact .gs _ _ _ _ _ _ _ (hp _ h)
 | ip β cs hβ r ih=>exact .ip _ _ (fun h=>hb (hβ h)) ih
 | vs β sz ex xs hβ r ih=>exact .vs _ _ _ _ (fun h=>hb (hβ h)) ih
 | vs0=>exact .vs0 _ _ _
 | fn f first caps r1 r2 ih1 ih2=>exact .fn _ _ _ ih1 ih2
 | agg cs r ih=>exact .agg _ ih
 | tup cs r ih=>exact .tup _ ih
theorem PV.nb{x:AV}(h:PV x)(base:Nat):NB base x:=Ok.mono id (fun _ h=>h.elim) h
theorem PV.ob{x:AV}(h:PV x)(base:Nat):M5 base x:=Ok.mono (fun h=>by cases h) (fun _ h=>h.elim) h
theorem NB.move{ρ ρ':j9}{base:Nat}(hm:∀b g x,base≤b→ρ.m b g=some x→ρ'.m b g=some x)(hi:∀c x,ρ.imm false c=some x→ρ'.imm false c=some x){ls x v}(r:RV ρ ls x v):
 NB base x→RV ρ' ls x v:=by
 induction r with
 | any=>exact fun _=>.any _ _
 | bool=>exact fun _=>.bool _ _
 | int=>exact fun _=>.int _ _ _
 | str=>exact fun _=>.str _ _
 | nilp=>exact fun _=>.nilp _
 | nils=>exact fun _=>.nils _
 | nilf=>exact fun _=>.nilf _
 | opq=>exact fun _=>.opq _ _
 | lp=>intro h;cases h
 | gp ls b g off c o n h=>intro nb;cases nb with|gp _ _ _ hb=>exact .gp _ b g off c o n (hm _ _ _ hb h)
 | ip ls β cs c o f h r ih=>
  intro nb;cases nb with
  | ip _ _ hβ nr=>
   have:β=false:=by cases β<;>simp_all
   subst this;exact .ip _ false cs c o f (fun j x hx=>let ⟨arr,h1,h2⟩:=h j x hx;⟨arr,hi _ _ h1,h2⟩) (fun j x hx=>ih j x hx (nr x (Aaa hx)))
 | gs ls b g off len cap sz ex c o n cap' h h1 h2 h3 h4=>intro nb;cases nb with|gs _ _ _ _ _ _ _ hb=>exact .gs _ b g off len cap sz ex c o n cap' (hm _ _ _ hb h) h1 h2 h3 h4
 | gs0 ls b g off sz ex c o n a h=>intro nb;cases nb with|gs _ _ _ _ _ _ _ hb=>exact .gs0 _ b g off sz ex c o n a (hm _ _ _ hb h)
 | vs ls β sz ex xs c o cap' f h1 h2 h3 h4 r ih=>
  intro nb;cases nb with
  | vs _ _ _ _ hβ nr=>
   have:β=false:=by cases β<;>simp_all
   subst this;exact .vs _ false sz ex xs c o cap' f h1 h2 h3 (fun i l hl j x hx=>let ⟨arr,e1,e2⟩:=h4 i l hl j x hx;⟨arr,hi _ _ e1,e2⟩) (fun i l hl j x hx=>ih i l hl j x hx (nr l (Aaa hl) x (Aaa hx)))
  | vs0=>exact .vs0 _ β sz ex _ cap' (fun h=>by simpa using h2 h)
 | vs0 ls β sz ex a cap' h2=>exact fun _=>.vs0 _ β sz ex a cap' h2
 | vsn ls β sz ex=>exact fun _=>.vsn _ β sz ex
 | fn ls f first caps first' caps' h1 h2 r1 r2 ih1 ih2=>
  intro nb;cases nb with
  | fn _ _ _ n1 n2=>exact .fn _ f first caps first' caps' h1 h2 (fun i x hx=>ih1 i x hx (n1 x (Aaa hx))) (fun i x hx=>ih2 i x hx (n2 x (Aaa hx)))
 | agg ls cs vs h1 r ih=>intro nb;cases nb with|agg _ n1=>exact .agg _ cs vs h1 (fun i x hx=>ih i x hx (n1 x (Aaa hx)))
 | tup ls cs vs h1 r ih=>intro nb;cases nb with|tup _ n1=>exact .tup _ cs vs h1 (fun i x hx=>ih i x hx (n1 x (Aaa hx)))
def NBH(base:Nat)(new:AH):Prop:=∀(b g:Nat) (cs:List AV),new[b]? = some (some (g,cs))→∀x∈cs,NB base x
theorem NBH.nil(base:Nat):NBH base []:=fun b g cs h=>by simp at h
def iN(ρ ρ':j9)(base:Nat):j9 where
 m:=fun b g=>if b<base then ρ.m b g else ρ'.m b g
 imm:=fun β c=>if β=true then ρ.imm true c else ρ'.imm false c
theorem al.snap{f:FuncId}{args args':List AV}{s:St}{Q:AV→AH→Prop}{K:AV→St→Prop}(ho:args.all gq=true)(hs:uy s.heap args args')
 (t:T P Γ f args' (List.replicate s.heap.length none) Q)
 (hq:∀v h',Q v h'→∃new,h'=List.replicate s.heap.length none++new∧NB s.heap.length v∧NBH s.heap.length new∧K v { s with heap:=s.heap++new }):al P Γ f args s K:=by
 intro ρ ls w cargs m g ra;obtain⟨sl,sr⟩:=hs.spec;have hle:=Ck ρ s.heap w;refine⟨t.1,(t.2 (nW ρ s.heap w) w cargs (MI m) (g.mono _ hle) ⟨by rw[←sl];exact ra.1,fun i y hy=>?_⟩).mono ?_⟩
 ·obtain⟨x,hx,hxy⟩:=sr i y hy;exact hxy.view m (AY (ra.2 i x hx) (Aaj.1 ho x (Aaa hx)) [])
 rintro e w' ⟨v,cv,ρ',h',rfl,r1,r2,ev,q⟩;obtain⟨new,rfl,nv,nn,hk⟩:=hq _ _ q;have hlen:∀{b:Nat} {x:Nat×List AV},(List.replicate s.heap.length (none:Option (Nat×List AV))++new)[b]? = some (some x)→s.heap.length≤b:=by
  intro b x hb;rcases Aad b s.heap.length with h|h
  ·rw[Aaf (by simpa using h),Aag,if_pos h]at hb;simp at hb
  ·exact h
 have hnew:∀{b:Nat},s.heap.length≤b→(List.replicate s.heap.length (none:Option (Nat×List AV))++new)[b]? = (s.heap++new)[b]?:=by
  intro b hb;rw[Aae (by simpa using hb),Aae hb];simp
 have hold:∀{b:Nat},b<s.heap.length→(s.heap++new)[b]? = s.heap[b]?:=fun hb=>Aaf hb;have dead:∀{b:Nat} {x:Nat×List AV},(List.replicate s.heap.length (none:Option (Nat×List AV)))[b]? = some (some x)→False:=by
  intro b x hb;rw[Aag]at hb;split at hb<;>simp at hb
 have hfr:∀c,c<w.heap.size→w'.heap[c]? = w.heap[c]?:=fun c hc=>ev.fr c hc (by
  rintro(⟨i,t⟩|⟨b,g,cs,o,n,t1,t2⟩)
  ·simp at t
  ·exact dead t1)
 let ρ₂:=iN ρ ρ' s.heap.length
 have le2:ρ.le ρ₂:=by
  refine⟨fun b g x e=>?_,fun β c x e=>?_⟩
  ·obtain⟨c,o,n⟩:=x;have:=(m.dom b g c o n e).2.1;simp only[ρ₂,iN,if_pos this];exact e
  ·cases β with
   | true=>simpa[ρ₂,iN]using e
   | false=>simpa[ρ₂,iN]using ev.le.imm false c x (hle.imm false c x e)
 have mv:∀{ls x v},RV ρ' ls x v→NB s.heap.length x→RV ρ₂ ls x v:=fun r n=>NB.move (fun b g x hb e=>by simp only[ρ₂,iN,if_neg (Aai.2 hb)];exact e) (fun c x e=>by simpa[ρ₂,iN]using e) r n;have own':∀{b g:Nat} {cs:List AV} {c o n:Nat},s.heap.length≤b→(s.heap++new)[b]? = some (some (g,cs))→ρ'.m b g=some (c,o,n)→w.heap.size≤c:=by
  intro b g cs c o n hb h1 h2;rw[←hnew hb]at h1;rcases ev.own b g cs c o n h1 h2 with h|⟨_,_,_,_,h,_⟩
  ·exact h
  ·exact(dead h).elim
 have lt_hp:∀{b g:Nat} {cs:List AV} {c o n:Nat},ρ.m b g=some (c,o,n)→c<w.heap.size:=fun e=>(m.dom _ _ _ _ _ e).1;have mem:RH ρ₂ ls s.loc (s.heap++new) w':=by
  refine⟨?_,?_,m.len,m.nod,?_,?_,?_,?_,?_,?_⟩
  ·intro b g cs hb;rcases Aad b s.heap.length with hlt|hge
   ·rw[hold hlt]at hb;obtain⟨c,o,n,arr,T,fr,e1,e2,e3,e4,e5,e6⟩:=m.hp b g cs hb;exact⟨c,o,n,arr,T,fr,le2.m _ _ _ e1,by rw[hfr c (lt_hp (cs:=cs) e1)];exact e2,e3,e4,e5,fun i x hx=>let ⟨y,g1,g2⟩:=e6 i x hx;⟨y,g1,g2.mono le2 (.refl _)⟩⟩
   ·have hb':=hb;rw[←hnew hge]at hb;obtain⟨c,o,n,arr,T,fr,e1,e2,e3,e4,e5,e6⟩:=r2.hp b g cs hb;refine⟨c,o,n,arr,T,fr,by simp only[ρ₂,iN,if_neg (Aai.2 hge)];exact e1,e2,e3,e4,e5,fun i x hx=>let ⟨y,g1,g2⟩:=e6 i x hx;⟨y,g1,mv g2 ?_⟩⟩;rw[Aae hge]at hb';exact nn _ g cs hb' x (Aaa hx)
  ·intro i cs hi;obtain⟨c,arr,T,fr,h1,h2,h3,h4,h5⟩:=m.lp i cs hi;exact⟨c,arr,T,fr,h1,by rw[hfr c (m.zG h1)];exact h2,h3,h4,fun j x hx=>let ⟨y,e1,e2⟩:=h5 j x hx;⟨y,e1,e2.mono le2 (.refl _)⟩⟩
  ·intro b g cs b' g' cs' c o n o' n' hb hb' hm hm';simp only[ρ₂,iN]at hm hm';rcases Aad b s.heap.length with hlt|hge<;>rcases Aad b' s.heap.length with hlt'|hge'
   ·rw[if_pos hlt]at hm;rw[if_pos hlt']at hm';rw[hold hlt]at hb;rw[hold hlt']at hb';exact m.hh b g cs b' g' cs' c o n o' n' hb hb' hm hm'
   ·rw[if_pos hlt]at hm;rw[if_neg (Aai.2 hge')]at hm';have h1:=lt_hp (cs:=cs) hm;have h2:=own' hge' hb' hm';omega
   ·rw[if_neg (Aai.2 hge)]at hm;rw[if_pos hlt']at hm';have h1:=lt_hp (cs:=cs) hm';have h2:=own' hge hb hm;omega
   ·rw[if_neg (Aai.2 hge)]at hm;rw[if_neg (Aai.2 hge')]at hm';rw[←hnew hge]at hb;rw[←hnew hge']at hb';exact r2.hh b g cs b' g' cs' c o n o' n' hb hb' hm hm'
  ·intro b g cs c o n i hb hm hi;simp only[ρ₂,iN]at hm;rcases Aad b s.heap.length with hlt|hge
   ·rw[if_pos hlt]at hm;rw[hold hlt]at hb;exact m.hl b g cs c o n i hb hm hi
   ·rw[if_neg (Aai.2 hge)]at hm;have h1:=own' hge hb hm;have h2:=m.zG hi;omega
  ·intro β c arr hi;cases β with
   | true=>
    simp only[ρ₂,iN,if_true]at hi;obtain⟨T,fr,e⟩:=m.im true c arr hi;exact⟨T,fr,by rw[hfr c (m.Lj hi)];exact e⟩
   | false=>exact r2.im false c arr (by simpa[ρ₂,iN]using hi)
  ·intro β c arr i hi hl;cases β with
   | true=>exact m.iml true c arr i (by simpa[ρ₂,iN]using hi) hl
   | false=>
    have:=ev.imo false c arr (m.zG hl) (by simpa[ρ₂,iN]using hi);exact m.iml false c arr i (by simpa[nW]using this) hl
  ·intro β c arr b g cs o n hi hb hm;simp only[ρ₂,iN]at hm;rcases Aad b s.heap.length with hlt|hge
   ·rw[if_pos hlt]at hm;rw[hold hlt]at hb;have hc:=lt_hp (cs:=cs) hm;cases β with
    | true=>exact m.imh true c arr b g cs o n (by simpa[ρ₂,iN]using hi) hb hm
    | false=>
     have:=ev.imo false c arr hc (by simpa[ρ₂,iN]using hi);exact m.imh false c arr b g cs o n (by simpa[nW]using this) hb hm
   ·rw[if_neg (Aai.2 hge)]at hm;have h1:=own' hge hb hm;cases β with
    | true=>
     have h2:=m.Lj (β:=true) (c:=c) (arr:=arr) (by simpa[ρ₂,iN]using hi);omega
    | false=>
     rw[←hnew hge]at hb;exact r2.imh false c arr b g cs o n (by simpa[ρ₂,iN]using hi) hb hm
  ·intro b g c o n hm;simp only[ρ₂,iN]at hm;rcases Aad b s.heap.length with hlt|hge
   ·rw[if_pos hlt]at hm;obtain⟨d1,d2,d3⟩:=m.dom b g c o n hm;exact⟨Nat.lt_of_lt_of_le d1 ev.sz,by simp;omega,fun g' cs hb=>d3 g' cs (by rwa[hold hlt]at hb)⟩
   ·rw[if_neg (Aai.2 hge)]at hm;obtain⟨d1,d2,d3⟩:=r2.dom b g c o n hm;exact⟨d1,by simpa using d2,fun g' cs hb=>d3 g' cs (by rwa[←hnew hge]at hb)⟩
 refine⟨cv,v,{ s with heap:=s.heap++new },ρ₂,ls,rfl,rfl,(mv r1 nv).mono (.refl _) (.nil _),mem,⟨le2,.refl _,ev.sz,fun c hc _=>hfr c hc,?_,fun i c h=>.inr h,?_,by simp,ev.os,ev.out⟩,hk⟩
 ·intro b g cs c o n hb hm;simp only[ρ₂,iN]at hm;rcases Aad b s.heap.length with hlt|hge
  ·rw[if_pos hlt]at hm;exact .inr ⟨g,cs,o,n,by rwa[hold hlt]at hb,hm⟩
  ·rw[if_neg (Aai.2 hge)]at hm;exact .inl (own' hge hb hm)
 ·intro β c arr hc hi;cases β with
  | true=>simpa[ρ₂,iN]using hi
  | false=>
   have:=ev.imo false c arr hc (by simpa[ρ₂,iN]using hi);simpa[nW]using this
theorem RV.ob{ρ:j9}{base:Nat}(hd:∀b g x,ρ.m b g=some x→b<base){ls x v}(r:RV ρ ls x v):ls=[]→M5 base x:=by
 induction r with
 | any=>exact fun _=>.any
 | bool=>exact fun _=>.bool _
 | int=>exact fun _=>.int _ _
 | str=>exact fun _=>.str _
 | nilp=>exact fun _=>.nilp
 | nils=>exact fun _=>.nils
 | nilf=>exact fun _=>.nilf
 | opq=>exact fun _=>.opq _
 | lp ls i off c h=>intro hn;subst hn;simp at h
 | gp ls b g off c o n h=>exact fun _=>.gp _ _ _ (hd _ _ _ h)
 | ip ls β cs c o f h r ih=>exact fun _=>.ip _ _ (fun _=>rfl) (fun x hx=>let ⟨j,hj⟩:=Aab.1 hx;ih j x hj rfl)
 | gs ls b g off len cap sz ex c o n cap' h=>exact fun _=>.gs _ _ _ _ _ _ _ (hd _ _ _ h)
 | gs0 ls b g off sz ex c o n a h=>exact fun _=>.gs _ _ _ _ _ _ _ (hd _ _ _ h)
 | vs ls β sz ex xs c o cap' f h1 h2 h3 h4 r ih=>
  exact fun _=>.vs _ _ _ _ (fun _=>rfl) (fun l hl x hx=>let ⟨i,hi⟩:=Aab.1 hl;let ⟨j,hj⟩:=Aab.1 hx;ih i l hi j x hj rfl)
 | vs0=>exact fun _=>.vs0 _ _ _
 | vsn=>exact fun _=>.vs0 _ _ _
 | fn ls f first caps first' caps' h1 h2 r1 r2 ih1 ih2=>
  exact fun hn=>.fn _ _ _ (fun x hx=>let ⟨j,hj⟩:=Aab.1 hx;ih1 j x hj hn) (fun x hx=>let ⟨j,hj⟩:=Aab.1 hx;ih2 j x hj hn)
 | agg ls cs vs h1 r ih=>exact fun hn=>.agg _ (fun x hx=>let ⟨j,hj⟩:=Aab.1 hx;ih j x hj hn)
 | tup ls cs vs h1 r ih=>exact fun hn=>.tup _ (fun x hx=>let ⟨j,hj⟩:=Aab.1 hx;ih j x hj hn)
theorem M5.move{ρ ρ':j9}{base:Nat}(hm:∀b g x,b<base→ρ.m b g=some x→ρ'.m b g=some x)(hi:∀β c x,ρ.imm β c=some x→ρ'.imm β c=some x){ls x v}(r:RV ρ ls x v):
 M5 base x→RV ρ' ls x v:=by
 induction r with
 | any=>exact fun _=>.any _ _
 | bool=>exact fun _=>.bool _ _
 | int=>exact fun _=>.int _ _ _
 | str=>exact fun _=>.str _ _
 | nilp=>exact fun _=>.nilp _
 | nils=>exact fun _=>.nils _
 | nilf=>exact fun _=>.nilf _
 | opq=>exact fun _=>.opq _ _
 | lp=>intro h;cases h
 | gp ls b g off c o n h=>intro nb;cases nb with|gp _ _ _ hb=>exact .gp _ b g off c o n (hm _ _ _ hb h)
 | ip ls β cs c o f h r ih=>
  intro nb;cases nb with
  | ip _ _ hβ nr=>exact .ip _ β cs c o f (fun j x hx=>let ⟨arr,h1,h2⟩:=h j x hx;⟨arr,hi _ _ _ h1,h2⟩) (fun j x hx=>ih j x hx (nr x (Aaa hx)))
 | gs ls b g off len cap sz ex c o n cap' h h1 h2 h3 h4=>intro nb;cases nb with|gs _ _ _ _ _ _ _ hb=>exact .gs _ b g off len cap sz ex c o n cap' (hm _ _ _ hb h) h1 h2 h3 h4
 | gs0 ls b g off sz ex c o n a h=>intro nb;cases nb with|gs _ _ _ _ _ _ _ hb=>exact .gs0 _ b g off sz ex c o n a (hm _ _ _ hb h)
 | vs ls β sz ex xs c o cap' f h1 h2 h3 h4 r ih=>
  intro nb;cases nb with
  | vs _ _ _ _ hβ nr=>exact .vs _ β sz ex xs c o cap' f h1 h2 h3 (fun i l hl j x hx=>let ⟨arr,e1,e2⟩:=h4 i l hl j x hx;⟨arr,hi _ _ _ e1,e2⟩) (fun i l hl j x hx=>ih i l hl j x hx (nr l (Aaa hl) x (Aaa hx)))
  | vs0=>exact .vs0 _ β sz ex _ cap' (fun h=>by simpa using h2 h)
 | vs0 ls β sz ex a cap' h2=>exact fun _=>.vs0 _ β sz ex a cap' h2
 | vsn ls β sz ex=>exact fun _=>.vsn _ β sz ex
 | fn ls f first caps first' caps' h1 h2 r1 r2 ih1 ih2=>
  intro nb;cases nb with
  | fn _ _ _ n1 n2=>exact .fn _ f first caps first' caps' h1 h2 (fun i x hx=>ih1 i x hx (n1 x (Aaa hx))) (fun i x hx=>ih2 i x hx (n2 x (Aaa hx)))
 | agg ls cs vs h1 r ih=>intro nb;cases nb with|agg _ n1=>exact .agg _ cs vs h1 (fun i x hx=>ih i x hx (n1 x (Aaa hx)))
 | tup ls cs vs h1 r ih=>intro nb;cases nb with|tup _ n1=>exact .tup _ cs vs h1 (fun i x hx=>ih i x hx (n1 x (Aaa hx)))
inductive EI (base:Nat) (h:AH):AV→AV→Prop
 | same (x:AV) (hx:M5 base x):EI base h x x
 | any (x:AV):EI base h x .any
 | nil (sz:Nat) (ex:Bool):EI base h .nils (.vs false sz ex [])
 | gp (b g off:Nat) (cells cs:List AV) (f:Nat→AV) (hb:base≤b) (h1:h[b]? = some (some (g,cells)))
  (h2:∀(j:Nat) (x:AV),cs[j]? = some x→cells[off+j]? = some (f j)) (r:∀(j:Nat) (x:AV),cs[j]? = some x→EI base h (f j) x):EI base h (.gp b g off) (.ip false cs)
 | gs (b g off len cap sz:Nat) (ex ex':Bool) (cells:List AV) (xs:List (List AV)) (f:Nat→Nat→AV) (hb:base≤b) (h1:h[b]? = some (some (g,cells))) (h2:xs.length=len)
  (h3:ex'=true→ex=true∧cap=len) (h4:∀(i:Nat) (l:List AV),xs[i]? = some l→l.length=sz)
  (h5:∀(i:Nat) (l:List AV),xs[i]? = some l→∀(j:Nat) (x:AV),l[j]? = some x→cells[off+(i*sz+j)]? = some (f i j))
  (r:∀(i:Nat) (l:List AV),xs[i]? = some l→∀(j:Nat) (x:AV),l[j]? = some x→EI base h (f i j) x):EI base h (.gs b g off len cap sz ex) (.vs false sz ex' xs)
 | agg (xs ys:List AV) (h1:xs.length=ys.length) (f:Nat→AV) (h2:∀(i:Nat) (y:AV),ys[i]? = some y→xs[i]? = some (f i)) (r:∀(i:Nat) (y:AV),ys[i]? = some y→EI base h (f i) y):EI base h (.agg xs) (.agg ys)
 | tup (xs ys:List AV) (h1:xs.length=ys.length) (f:Nat→AV) (h2:∀(i:Nat) (y:AV),ys[i]? = some y→xs[i]? = some (f i)) (r:∀(i:Nat) (y:AV),ys[i]? = some y→EI base h (f i) y):EI base h (.tup xs) (.tup ys)
open Classical in
noncomputable def qu(ρ:j9)(base:Nat)(h:AH)(w:World):j9 where
 m:=fun b g=>if b<base then ρ.m b g else none
 imm:=fun β c=>if β=true then ρ.imm true c else if (ρ.imm false c).isSome=true then ρ.imm false c else if ∃b g cs o n,base≤b∧h[b]? = some (some (g,cs))∧ρ.m b g=some (c,o,n)then some (xn w c)else none
theorem DY{ρ:j9}{base:Nat}{h:AH}{w:World}:∀β c x,ρ.imm β c=some x→(qu ρ base h w).imm β c=some x:=by
 intro β c x e;cases β<;>simp[qu,e]
theorem Fc{ρ:j9}{base:Nat}{ls L h w}(m:RH ρ ls L h w){b g cs c o n}(hge:base≤b)(hb:h[b]? = some (some (g,cs)))(hm:ρ.m b g=some (c,o,n)):(qu ρ base h w).imm false c=some (xn w c):=by
 have:(ρ.imm false c).isSome=false:=by
  cases hi:ρ.imm false c with
  | none=>rfl
  | some arr=>exact absurd hm (m.imh false c arr b g cs o n hi hb)
 simp only[qu,Aak,if_false];rw[if_neg (by simp[this]),if_pos ⟨b,g,cs,o,n,hge,hb,hm⟩]
theorem EI.rv{ρ:j9}{base:Nat}{ls L h w}(m:RH ρ ls L h w){x y:AV}(s:EI base h x y):∀{v},RV ρ [] x v→RV (qu ρ base h w) [] y v:=by
 induction s with
 | same x hx=>exact fun r=>M5.move (fun b g x hb e=>by simp only[qu,if_pos hb];exact e) DY r hx
 | any x=>exact fun _=>.any _ _
 | nil sz ex=>
  intro v rv;cases rv;exact .vsn _ _ _ _
 | gp b g off cells cs f hge h1 h2 r ih=>
  intro v rv;cases rv with
  | gp _ _ _ _ c o n hm=>
   obtain⟨c',o',n',arr',T,fr,e1,e2,e3,e4,e5,e6⟩:=m.hp b g cells h1;rw[hm]at e1;injection e1 with e1
   simp only[Prod.mk.injEq]at e1;obtain⟨rfl,rfl,rfl⟩:=e1;have hi:=Fc m hge h1 hm;simp only[xn,e2]at hi;refine .ip _ false cs c (o+off) (fun j=>arr'.getD (o+off+j) undef) (fun j x hx=>⟨arr',hi,?_⟩) (fun j x hx=>?_)
   ·obtain⟨y,g1,g2⟩:=e6 (off+j) _ (h2 j x hx);rw[Aac,g1];simp[Array.getD_eq_getD_getElem?,Aac,g1]
   ·obtain⟨y,g1,g2⟩:=e6 (off+j) _ (h2 j x hx);have:=ih j x hx g2;simpa[Array.getD_eq_getD_getElem?,Aac,g1]using this
 | gs b g off len cap sz ex ex' cells xs f hge h1 h2 h3 h4 h5 r ih=>
  intro v rv;cases rv with
  | gs _ _ _ _ _ _ _ _ c o n cap' hm k1 k2 k3 k4=>
   obtain⟨c',o',n',arr',T,fr,e1,e2,e3,e4,e5,e6⟩:=m.hp b g cells h1;rw[hm]at e1;injection e1 with e1
   simp only[Prod.mk.injEq]at e1;obtain⟨rfl,rfl,rfl⟩:=e1;have hi:=Fc m hge h1 hm;simp only[xn,e2]at hi;subst h2;refine .vs _ false sz ex' xs c (o+off) cap' (fun i j=>arr'.getD (o+off+(i*sz+j)) undef) (by omega) (fun hx=>by have:=h3 hx;rw[k3 this.1,this.2]) h4
    (fun i l hl j x hx=>⟨arr',hi,?_⟩) (fun i l hl j x hx=>?_)
   ·obtain⟨y,g1,g2⟩:=e6 (off+(i*sz+j)) _ (h5 i l hl j x hx);rw[←Aac]at g1;rw[g1];simp[Array.getD_eq_getD_getElem?,g1]
   ·obtain⟨y,g1,g2⟩:=e6 (off+(i*sz+j)) _ (h5 i l hl j x hx);rw[←Aac]at g1;have:=ih i l hl j x hx g2;simpa[Array.getD_eq_getD_getElem?,g1]using this
  | gs0 _ _ _ _ _ _ c o n a hm=>
   have:xs=[]:=Aam.1 h2;subst this;exact .vs0 _ false sz ex' a 0 (fun _=>rfl)
 | agg xs ys h1 f h2 r ih=>
  intro v rv;cases rv with
  | agg _ _ vs k1 kr=>exact .agg _ _ _ (by omega) (fun i y hy=>ih i y hy (kr i _ (h2 i y hy)))
 | tup xs ys h1 f h2 r ih=>
  intro v rv;cases rv with
  | tup _ _ vs k1 kr=>exact .tup _ _ _ (by omega) (fun i y hy=>ih i y hy (kr i _ (h2 i y hy)))
theorem T.freeze{f:FuncId}{args:List AV}{h:AH}{Q K:AV→AH→Prop}(t:T P Γ f args h Q)
 (hq:∀v h',Q v h'→∃h₁ new v',h'=h₁++new∧h₁.length=h.length∧(∀(b g:Nat) (cs:List AV),h₁[b]? = some (some (g,cs))→h[b]? = some (some (g,cs))∨∀x∈cs,M5 h.length x)∧EI h.length h' v v'∧K v' h₁):
 T P Γ f args h K:=by
 refine⟨t.1,fun ρ w cargs m gk ra=>(t.2 ρ w cargs m gk ra).mono ?_⟩;rintro e w' ⟨v,cv,ρ',h',rfl,r1,r2,ev,q⟩;obtain⟨h₁,new,v',rfl,hl,hob,hf,hk⟩:=hq _ _ q
 let ρ₂:=qu ρ' h.length (h₁++new) w'
 have hold:∀{b:Nat} {x:Option (Nat×List AV)},h₁[b]? = some x→b<h.length∧(h₁++new)[b]? = some x:=by
  intro b x hb;have:=aL hb;exact⟨by omega,by rw[Aaf this];exact hb⟩
 have hm2:∀{b g:Nat} {x:Nat×Nat×Nat},ρ₂.m b g=some x→b<h.length∧ρ'.m b g=some x:=by
  intro b g x hx;simp only[ρ₂,qu]at hx;split at hx
  ·exact⟨by assumption,hx⟩
  ·cases hx
 have hm2':∀{b g:Nat} {x:Nat×Nat×Nat},b<h.length→ρ'.m b g=some x→ρ₂.m b g=some x:=by
  intro b g x hb hx;simp only[ρ₂,qu,if_pos hb];exact hx
 have imm2:∀β c arr,ρ₂.imm β c=some arr→ρ'.imm β c=some arr∨(β=false∧∃b g cs o n,h.length≤b∧(h₁++new)[b]? = some (some (g,cs))∧ρ'.m b g=some (c,o,n)):=by
  intro β c arr hi;cases β with
  | true=>exact .inl (by simpa[ρ₂,qu]using hi)
  | false=>
   simp only[ρ₂,qu,Aak,if_false]at hi;split at hi
   ·exact .inl hi
   ·split at hi
    ·exact .inr ⟨rfl,by assumption⟩
    ·cases hi
 refine⟨v',cv,ρ₂,h₁,rfl,hf.rv r2 r1,⟨?_,fun i cs hi=>by simp at hi,rfl,fun i j c h=>by simp at h,?_,fun _ _ _ _ _ _ _ _ _ h=>by simp at h,?_,fun _ _ _ _ _ h=>by simp at h,?_,?_⟩,⟨⟨?_,?_⟩,.refl _,ev.sz,ev.fr,?_,fun i c h=>by simp at h,?_,by omega,ev.os,ev.out⟩,hk⟩
 ·intro b g cs hb;obtain⟨hlt,hb'⟩:=hold hb;obtain⟨c,o,n,arr,T,fr,e1,e2,e3,e4,e5,e6⟩:=r2.hp b g cs hb';refine⟨c,o,n,arr,T,fr,hm2' hlt e1,e2,e3,e4,e5,fun i x hx=>let ⟨y,g1,g2⟩:=e6 i x hx;⟨y,g1,M5.move (fun b g x hb e=>hm2' hb e) DY g2 ?_⟩⟩;rcases hob b g cs hb with h1|h1
  ·obtain⟨_,_,_,_,_,_,_,_,_,_,_,k6⟩:=m.hp b g cs h1;obtain⟨y',_,k⟩:=k6 i x hx;exact k.ob (fun b g x e=>(m.dom b g _ _ _ e).2.1) rfl
  ·exact h1 x (Aaa hx)
 ·intro b g cs b' g' cs' c o n o' n' hb hb' hm hm';exact r2.hh b g cs b' g' cs' c o n o' n' (hold hb).2 (hold hb').2 (hm2 hm).2 (hm2 hm').2
 ·intro β c arr hi;simp only[ρ₂,qu]at hi;cases β with
  | true=>exact r2.im true c arr (by simpa using hi)
  | false=>
   simp only[Aak,if_false]at hi;split at hi
   ·exact r2.im false c arr hi
   ·split at hi
    ·rename_i hx;obtain⟨b,g,cs,o,n,h0,h1,h2⟩:=hx;obtain⟨c',o',n',arr',T,fr,e1,e2,_⟩:=r2.hp b g cs h1;rw[h2]at e1;injection e1 with e1
     injection e1 with e1 e3
     subst e1;simp only[xn,e2]at hi;injection hi with hi
     subst hi;exact⟨T,fr,e2⟩
    ·cases hi
 ·intro β c arr b g cs o n hi hb hm;rcases imm2 β c arr hi with h1|⟨_,b',g',cs',o',n',k0,k1,k2⟩
  ·exact r2.imh β c arr b g cs o n h1 (hold hb).2 (hm2 hm).2
  ·have:=r2.hh b g cs b' g' cs' c o n o' n' (hold hb).2 k1 (hm2 hm).2 k2;have:=(hold hb).1;omega
 ·intro b g c o n hm;obtain⟨hlt,hm⟩:=hm2 hm;obtain⟨d1,d2,d3⟩:=r2.dom b g c o n hm;exact⟨d1,by omega,fun g' cs hb=>d3 g' cs (hold hb).2⟩
 ·intro b g x e;exact hm2' (m.dom b g _ _ _ e).2.1 (ev.le.m _ _ _ e)
 ·intro β c x e;exact DY _ _ _ (ev.le.imm _ _ _ e)
 ·intro b g cs c o n hb hm;exact ev.own b g cs c o n (hold hb).2 (hm2 hm).2
 ·intro β c arr hc hi;rcases imm2 β c arr hi with h1|⟨_,b',g',cs',o',n',k0,k1,k2⟩
  ·exact ev.imo β c arr hc h1
  ·rcases ev.own b' g' cs' c o' n' k1 k2 with h1|⟨g0,cs0,o0,n0,h1,h2⟩
   ·omega
   ·have:=aL h1;omega
end
end Go.AM
