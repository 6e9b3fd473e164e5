import Derived.Test.YtkepagpkphgpeaaGreatDoorAmG9
import Derived.Lib.Join
import Derived.Test.YtkepagpkphgpeaaGreatDoorAmG6
import Derived.Lib.LaidTab
set_option linter.unusedVariables false
set_option linter.unusedSimpArgs false
namespace Go.AM
def bQ(i:Nat):Tx:=(lZ cD).getD i []
def cT(l:List aC):aC:=l.getD (l.length-1) ⟨[],[]⟩
def lY(s:aC):bA:=s.methods.getD (s.methods.length-1) ⟨[],[]⟩
def sV(l:List aC)(line:Tx):List aC:=
  if line.take 7=aM then l++[⟨line.drop 7,[]⟩]
  else if line.take 7=aN then l.set (l.length-1) ⟨(cT l).name,(cT l).methods++[⟨line.drop 7,[]⟩]⟩
  else l.set (l.length-1) ⟨(cT l).name,(cT l).methods.set ((cT l).methods.length-1) ⟨(lY (cT l)).name,(lY (cT l)).code++[aX line]⟩⟩
def cR(i:Nat):List aC:=((lZ cD).take i).foldl sV []
def bD:Nat:=(lZ cD).length
theorem nC{i:Nat}(hi:i<bD):cR (i+1)=sV (cR i) (bQ i):=by
  unfold cR bQ
  rw[List.take_succ_eq_append_getElem hi,List.foldl_append,List.getD_eq_getElem?_getD,List.getElem?_eq_getElem hi];rfl
def ID(i:Nat):Bool:=
  decide ((cR i).length≤10) && (decide ((bQ i).length≤40) &&
  (if (bQ i).take 7=aM then decide (7<(bQ i).length)
   else decide (1≤(cR i).length) && (decide ((cT (cR i)).methods.length≤10) &&
    (if (bQ i).take 7=aN then decide (7<(bQ i).length)
     else decide (bQ i∈bc) && (decide (1≤(cT (cR i)).methods.length) && decide ((lY (cT (cR i))).code.length≤20))))))
theorem yO:(List.range bD).all ID=true:=by decide +kernel
theorem rH:cR bD=eg:=by decide +kernel
theorem oE:bD≤100:=by decide +kernel
theorem fQ:(ay 10 cD).length=bD+1:=by decide +kernel
theorem rF:∀i,i<bD→(ay 10 cD)[i]? = some (bQ i):=by decide +kernel
theorem ta:cD.length≤4000:=by decide +kernel
theorem eA:eg.all (fun s=>decide (s.name.length≤6) && (decide (s.methods.length≤4) && s.methods.all fun m=>decide (m.name.length≤6) && (decide (m.code.length≤12) && m.code.all fun x=>bc.any fun c=>decide (x=aX c))))=true:=by decide +kernel
end Go.AM
namespace Go.AM
open Go.Proofs
def pM(w:Tx):Bool:=match Lib.atoiAll w,jD w with
  | .ok n,some m=>decide (n=(m:Int))
  | .ok _,none=>false
  | _,some _=>false
  | _,none=>true
theorem tT:bc.all (fun s=>(ay 32 s).all pM)=true:=by decide +kernel
def cc(op:Int):List Nat:=if op=7 then [1,3,4]else if op=6 then [1,2,3,4]else [1,2,3]
def aW.set(x:aW)(j:Nat)(n:Int):aW:=
  if j=1 then { x with a:=n }else if j=2 then { x with b:=n }else if j=3 then { x with c:=n }else { x with d:=n }
def tw(fl:List Nat)(st:aW×Nat)(w:Tx):aW×Nat:=
  match jD w with
  | none=>({ st.1 with name:=w },st.2)
  | some n=>(st.1.set (fl.getD st.2 0) n,st.2+1)
def okW(fl:List Nat)(st:aW×Nat)(w:Tx):Bool:=
  match jD w with
  | none=>decide (st.1.name=[])
  | some _=>decide (st.2<fl.length)
def eZ(s:Tx):Int:=hO ((ay 32 s).headD [])
def fv(s:Tx):aW:=if eZ s=6∨eZ s=7 then ⟨eZ s,0,0,-1,-1,[]⟩else ⟨eZ s,0,0,0,0,[]⟩
def jL(s:Tx)(i:Nat):aW×Nat:=(((ay 32 s).tail).take i).foldl (tw (cc (eZ s))) (fv s,0)
theorem vg{s:Tx}{i:Nat}(hi:i<((ay 32 s).tail).length):jL s (i+1)=tw (cc (eZ s)) (jL s i) ((ay 32 s).tail)[i]:=by
  unfold jL
  rw[List.take_succ_eq_append_getElem hi,List.foldl_append];rfl
theorem x7:bc.all (fun s=>decide ((jL s ((ay 32 s).tail).length).1=aX s) && (decide ((ay 32 s).length≤10) && (decide (((ay 32 s).headD [])≠[]) && (decide (hO ((ay 32 s).headD [])≤10) && ((List.range ((ay 32 s).tail).length).all fun i=>okW (cc (eZ s)) (jL s i) (((ay 32 s).tail).getD i []) && decide ((jL s i).2≤i))))))=true:=by decide +kernel
end Go.AM
namespace Go.AM
open Go.Proofs
def uK(l:List Int):List Int:=l.filter fun n=>!decide (n = -1)
def qh(x:aW):List Tx:=
  fU x.op.toNat ::
  (if x.op=4∨x.op=10 then [fF x.a]
   else if x.op=5 then [fF x.a,fF x.b,fF x.c]
   else if x.op=6 then [fF x.a,fF x.b]++[x.name]++(uK [x.c,x.d]).map fF
   else if x.op=7 then [fF x.a]++[x.name]++(uK [x.c,x.d]).map fF
   else [fF x.a,fF x.b])
theorem rY:bc.all (fun s=>decide (Lib.join (qh (aX s)) [32]=s) && (decide ((aX s).c = -1→(aX s).d = -1) && decide ((aX s).op=5→(aX s).c≠-1)))=true:=by decide +kernel
theorem yl:bc.all (fun s=>decide (fU (hO ((ay 32 s).headD []))=(ay 32 s).headD []) && ((List.range (hO ((ay 32 s).headD []))).all (fun j=>decide (fU j≠(ay 32 s).headD [])) && (decide (s≠[]) && (decide (1≤hO ((ay 32 s).headD [])) && decide (((ay 32 s).headD []).length≤10)))))=true:=by decide +kernel
theorem xF{op:Int}{k:Nat}(h:k<(cc op).length):1≤(cc op).getD k 0∧(cc op).getD k 0≤4:=by
  unfold cc at *
  split at h
  · rename_i e
    rw[if_pos e]
    have:k=0∨k=1∨k=2:=by simp at h;omega
    rcases this with rfl|rfl|rfl<;>simp
  · rename_i e
    rw[if_neg e]
    split at h
    · rename_i e
      rw[if_pos e]
      have:k=0∨k=1∨k=2∨k=3:=by simp at h;omega
      rcases this with rfl|rfl|rfl|rfl<;>simp
    · rename_i e
      rw[if_neg e]
      have:k=0∨k=1∨k=2:=by simp at h;omega
      rcases this with rfl|rfl|rfl<;>simp
end Go.AM
namespace Go.AM
open Go.Proofs
def Jg(i:Nat):Bool:=
  decide (bQ i≠[]) &&
  (if (bQ i).take 7=aM then Lib.hasPrefix (bQ i) aM && decide (Lib.trimPrefix (bQ i) aM=(bQ i).drop 7)
   else (!Lib.hasPrefix (bQ i) aM) && (if (bQ i).take 7=aN then Lib.hasPrefix (bQ i) aN && decide (Lib.trimPrefix (bQ i) aN=(bQ i).drop 7)else !Lib.hasPrefix (bQ i) aN))
theorem yb:(List.range bD).all Jg=true:=by decide +kernel
theorem uh:(ay 10 cD)[bD]? = some []:=by decide +kernel
theorem pre_nil:Lib.hasPrefix [] aM=false:=by decide +kernel
end Go.AM
namespace Go.AM
open Go.ChangeShapes
section
variable {P:Program} {W:World} {H:Type} {enc:TypeId×Value→H} {Γ:aZ}
theorem wH{e:TypeId}(hu:P.underlying e=some .string){w w':World}{b:Nat}{sp sp':Nat→Bool}{held:Bool}(fuel:Nat)(cs:List Value):
    DataW.trod enc P w b sp held fuel e cs=DataW.trod enc P w' b sp' held fuel e cs:=by
  cases fuel with
  | zero=>simp only[DataW.trod]
  | succ n=>
    simp only[DataW.trod,hu]
    match cs with
    | []=>rfl
    | [v]=>cases v<;>rfl
    | _::_::_=>simp
theorem ua{t e:TypeId}{n:Nat}(ht:P.underlying t=some (.array n e))(hu:P.underlying e=some .string){w w':World}{b:Nat}{sp sp':Nat→Bool}{held:Bool}(fuel:Nat)(cs:List Value):
    DataW.trod enc P w b sp held fuel t cs=DataW.trod enc P w' b sp' held fuel t cs:=by
  cases fuel with
  | zero=>simp only[DataW.trod]
  | succ k=>
    simp only[DataW.trod,ht]
    have:(fun i=>DataW.trod enc P w b sp held k e ((cs.drop (i*P.cellsOf e)).take (P.cellsOf e)))=fun i=>DataW.trod enc P w' b sp' held k e ((cs.drop (i*P.cellsOf e)).take (P.cellsOf e)):=funext fun i=>wH hu _ _
    rw[this]
theorem rD{nm:String}{w w':World}{sp sp':Nat→Bool}{gs:List (DataW H)}{ps:List MemPlace}{g:Nat}{t e:TypeId}{n:Nat}(hg:P.globalNamed nm=some g)(hty:(P.globals[g]?).map (·.type)=some t)
    (ht:P.underlying t=some (.array n e)) (hu:P.underlying e=some .string) (hk:∀c,c<w.heap.size→w'.heap[c]? = w.heap[c]?) (h:DataW.TrodVars enc P w sp [nm] gs ps):
    DataW.TrodVars enc P w' sp' [nm] gs ps∧∃d,gs=[d]:=by
  match gs,h with
  | d::ds,h=>
    obtain⟨g0,t0,cs,fuel,p,q,h1,h2,h3,h4,h5,h6⟩:=h
    obtain rfl:=Option.some.inj (hg.symm.trans h1)
    obtain rfl:=Option.some.inj (hty.symm.trans h2)
    match ds,h5 with
    | [],h5=>
      refine⟨⟨g,t,cs,fuel,p,q,h1,h2,?_,?_,h5,h6⟩,d,rfl⟩
      · unfold World.var? at h3 ⊢
        rw[h1]at h3 ⊢
        simp only[Option.bind_some]at h3 ⊢
        have hl:g<w.heap.size:=by
          rcases Nat.lt_or_ge g w.heap.size with h|h
          · exact h
          · rw[Array.getElem?_eq_none h]at h3;simp at h3
        rw[hk g hl];exact h3
      · rw[ua ht hu (w':=w) (sp':=sp)];exact h4
theorem ur{n:Nat}{f:FuncId}{fn:Func}{s:ChangeSpec}{apart fresh handsOn again:Bool}{args:Array Value}{ds gs:List (DataW H)}{before:List MemPlace}{tb:TypeId}{base:Nat}{nm:String}{g:Nat}{tv te:TypeId}{nv:Nat}
    (hp:∀t∈fn.params.toList,cU P n t=true) (hvars:s.vars=[nm]) (hg:P.globalNamed nm=some g) (hty:(P.globals[g]?).map (·.type)=some tv) (htv:P.underlying tv=some (.array nv te)) (hte:P.underlying te=some .string)
    (hres:fn.resultTypes=#[tb]) (htb:P.underlying tb=some .bool)
    (hspec:∀(xs:List (DataW H)) (d:DataW H),xs.length=fn.params.toList.length→s.fn H (xs++[d])={ results:=[.lit (.bool true)],args:=xs,vars:=[d] })
    (t:∀dats:List dr,dJ P n fn.params.toList dats→T P Γ f (dats.map dr.av) [] fun v _=>v=.bool true)
    (hval:∀(j:Nat) t v,fn.params[j]? = some t→args[j]? = some v→Value.okWide P W .any base t v)
    (hW:DataW.Whole enc P fn.params.toList s.vars apart W args.toList ds gs before) (hΓ:pd Γ (bB W)):
    Calls P f args W fun e W'=>∃v,e=.returned v∧s.post enc P fn apart fresh handsOn again W args v W':=by
  have hW':=hW
  obtain⟨p,q,hA,hV,rfl,hz,hn⟩:=hW
  rw[hvars]at hV
  obtain⟨-,d,rfl⟩:=rD (w':=W) (sp':=fun _=>true) hg hty htv hte (fun _ _=>rfl) hV
  obtain⟨dats,o1,o2,o3,o4⟩:=nD hp (fun j t v a b=>hval j t v (by simpa using a) (by simpa using b)) hA
  have hlen:args.toList.toArray=args:=by simp
  have ht:=(t dats o1).2 (bB W) W args.toList (C2 W) hΓ o2
  rw[hlen]at ht
  refine ht.mono ?_
  rintro e W2 ⟨v,cv,ρ',h',rfl,rv,rh,ev,rfl⟩
  cases rv
  have hk:∀c,c<W.heap.size→W2.heap[c]? = W.heap[c]?:=fun c hc=>ev.fr c hc (by
    rintro(⟨i,h⟩|⟨b,g,cs,o,n,h,_⟩)
    · simp at h
    · simp at h)
  have kept:W.keptBut W2 fun _=>False:=by
    refine⟨ev.os,ev.out,fun i hi=>?_⟩
    rw[hk i hi]
    split
    · rename_i h1 h2
      rw[h1]at h2
      injection h2 with h2
      injection h2 with h2 h3 h4
      subst h2;subst h3;subst h4
      exact⟨rfl,rfl,rfl,fun _ _=>rfl⟩
    · rename_i h1 h2
      rw[h1]at h2
      injection h2 with h2
      injection h2 with h2 h3
      exact .inr ⟨h2.symm,h3.symm⟩
    · rfl
  have hfz:∀a:Addr,a.block<W.heap.size→W2.frozen? a=W.frozen? a:=fun a ha=>by
    unfold World.frozen?;rw[hk _ ha]
  have hsp:=hspec ds d (by simpa using o3)
  refine⟨.bool true,rfl,?_⟩
  have hold:∀x∈p++q,(fun b=>decide (b<W.heap.size)) x.block=true:=fun x hx=>by simpa using hW'.lt x hx
  have hr:∀(b:Nat) (sp:Nat→Bool) (hd:Bool),DataW.TrodAll enc P W2 b sp hd fn.resultTypes.toList ((Value.bool true).resultList fn.resultTypes.size) (s.fn H (ds++[d])).results []:=by
    intro b sp hd
    rw[hsp,hres]
    exact trodAll_mk1 (⟨1,by simp[DataW.trod,htb,Value.cells]⟩:DataW.Trod enc P W2 b sp hd tb (.bool true) (.lit (.bool true)) [])
  have ha:∀sp:Nat→Bool,(∀x∈p,sp x.block=true)→DataW.TrodAll enc P W2 0 sp true fn.params.toList args.toList (s.fn H (ds++[d])).args p:=by
    intro sp h
    rw[hsp]
    exact o4 hk sp h
  have hv:∀sp:Nat→Bool,DataW.TrodVars enc P W2 sp s.vars (s.fn H (ds++[d])).vars q:=by
    intro sp
    rw[hsp,hvars]
    exact(rD hg hty htv hte hk hV).1
  refine⟨ds,[d],p++q,[],p,q,hW',hr _ _ _,ha _ (fun x hx=>hold x (List.mem_append_left _ hx)),hv _,World.keptBut_mono (fun x hx=>hx.elim) kept,fun _=>?_⟩
  refine⟨?_,_,_,([]++p)++q,⟨[]++p,q,trodAll_append (ha _ (fun _ _=>rfl)) (hr _ _ _),hv _,rfl,?_,?_⟩,?_⟩
  · intro j ty r h1 h2
    rw[hres]at h1 h2
    cases j with
    | zero=>
      simp at h1
      subst h1
      simp[Value.resultList]at h2
      subst h2
      simp[Value.okWide,htb,Cell.okWide,Cell.ok]
    | succ j=>simp at h1
  · intro b off hb
    have hb':MemPlace.cell b off∈p++q:=by simpa using hb
    rw[hfz _ (by simpa[MemPlace.block]using hW'.lt _ hb')]
    exact hz b off hb'
  · intro ha'
    have:=hn ha'
    simpa using this
  · intro x hx _
    simpa using hx
def yS{H:Type}(zs:List (List UInt8)):DataW H:=.agg (zs.map fun z=>.lit (.string z))
theorem uu{P:Program}{H:Type}{enc:TypeId×Value→H}{w:World}{b:Nat}{sp:Nat→Bool}{held:Bool}{fuel:Nat}{e:TypeId}{cs:List Value}{x:DataW H×List MemPlace}(hu:P.underlying e=some .string)
    (h:DataW.trod enc P w b sp held fuel e cs=some x):∃s:ByteArray,cs=[.string s]∧x.1=.lit (.string s.data.toList):=by
  cases fuel with
  | zero=>simp[DataW.trod]at h
  | succ n=>
    simp only[DataW.trod,hu]at h
    match cs,h with
    | [],h=>simp at h
    | [v],h=>
      cases v<;>simp at h
      obtain⟨_,rfl⟩:=h
      exact⟨_,rfl,rfl⟩
    | _::_::_,h=>simp at h
theorem mE{P:Program}{H:Type}{enc:TypeId×Value→H}{w:World}{base:Nat}{sp:Nat→Bool}{held:Bool}{fuel:Nat}{t e:TypeId}{n:Nat}{cs:List Value}{zs:List (List UInt8)}{p:List MemPlace}
    (ht:P.underlying t=some (.array n e)) (he:P.underlying e=some .string) (hce:P.cellsOf e=1) (hct:P.cellsOf t=n)
    (h:DataW.trod enc P w base sp held fuel t cs=some (yS zs,p)):cs=zs.map fun z=>Value.string ⟨z.toArray⟩:=by
  cases fuel with
  | zero=>simp[DataW.trod]at h
  | succ fuel=>
    simp only[DataW.trod,ht,hce,hct,Nat.mul_one]at h
    split at h
    · rename_i hl
      obtain⟨xs,hm,hx⟩:=Option.map_eq_some_iff.1 h
      have hxs:xs.map (·.1)=zs.map fun z=>(DataW.lit (.string z):DataW H):=by
        have:=congrArg Prod.fst hx
        simpa[yS]using this
      have hxl:xs.length=n:=by simpa using Go.Lib.mapM_length hm
      have hzl:zs.length=n:=by
        have:=congrArg List.length hxs
        simp at this
        omega
      apply List.ext_getElem?
      intro i
      by_cases hi:i<n
      · obtain⟨b,hb,hf⟩:=Go.Lib.mapM_at hm i i (by simp[hi])
        obtain⟨z,hc,hz⟩:=uu he hf
        have h1:cs[i]? = some (.string z):=by
          have:=congrArg (·[0]?) hc
          simpa[List.getElem?_take,List.getElem?_drop]using this
        have h2:(xs.map (·.1))[i]? = some (DataW.lit (.string z.data.toList):DataW H):=by simp[hb,hz]
        rw[hxs]at h2
        simp only[List.getElem?_map,Option.map_eq_some_iff,DataW.lit.injEq,Lit.string.injEq]at h2
        obtain⟨z',hz',rfl⟩:=h2
        simp[h1,hz']
      · rw[List.getElem?_eq_none (by omega),List.getElem?_eq_none (by simp;omega)]
    · cases h
theorem qu{P:Program}{W:World}{name:String}{zs:List (List UInt8)}{rest:List (String×DataW Unit)}{g:Nat}{t e:TypeId}{n:Nat}
    (hg:P.globalNamed name=some g) (hty:(P.globals[g]?).map (·.type)=some t) (ht:P.underlying t=some (.array n e)) (he:P.underlying e=some .string) (hce:P.cellsOf e=1) (hct:P.cellsOf t=n)
    (h:laidMet P ((name,yS zs)::rest) W):∃arr,(bB W).imm false g=some arr∧dh (bB W) [] arr 0 (zs.map fun z=>AV.str ⟨z.toArray⟩)∧arr.size=(zs.map fun z=>AV.str ⟨z.toArray⟩).length:=by
  obtain⟨ps,⟨g',t',cs,fuel,p,q,hg',ht',hvar,hd,_,_⟩,_⟩:=h
  obtain rfl:=Option.some.inj (hg.symm.trans hg')
  obtain rfl:=Option.some.inj (hty.symm.trans ht')
  have hcs:=mE ht he hce hct hd
  unfold World.var? at hvar
  rw[hg]at hvar
  simp only[Option.bind_some]at hvar
  split at hvar
  · rename_i cs' T fr hh
    injection hvar with hvar
    subst hvar
    refine⟨_,by simp only[bB,hh];rfl,fun i x hx=>?_,by rw[←Array.length_toList,hcs];simp⟩
    simp only[List.getElem?_map,Option.map_eq_some_iff]at hx
    obtain⟨z,hz,rfl⟩:=hx
    refine⟨.string ⟨z.toArray⟩,?_,.str _ _⟩
    rw[←Array.getElem?_toList,hcs,Nat.zero_add,List.getElem?_map,hz];rfl
  · cases hvar
end
end Go.AM
