import Derived.Test.YtccjhmhkfnnmaaaGreatAmG6
import Derived.ChangeArms
import Derived.ChangeSame
import Derived.ChangeOld
import Derived.ChangeShapes
import Derived.RowKit
import Derived.RowKit3
set_option linter.unusedVariables false
set_option linter.unusedSimpArgs false
namespace Go.AM
open Go.ChangeShapes
inductive gZ where
  | b (x:Bool)|i (k:IntKind) (n:Int)|s (x:ByteArray)|sl (h:SH) (sz:Nat) (xs:List gZ)|st (fs:List gZ)
  deriving Inhabited
mutual
def gZ.cells:gZ→List AV
  | .b x=>[.bool x]
  | .i k n=>[.int k n]
  | .s x=>[.str x]
  | .sl h sz xs=>[AM.sl h sz (gZ.qx xs)]
  | .st fs=>gZ.ud fs
def gZ.qx:List gZ→List (List AV)
  | []=>[]
  | d::r=>d.cells::gZ.qx r
def gZ.ud:List gZ→List AV
  | []=>[]
  | d::r=>d.cells++gZ.ud r
end
theorem gZ.zw:∀(xs:List gZ),gZ.qx xs=xs.map gZ.cells
  | []=>rfl
  | d::r=>by simp[gZ.qx,gZ.zw r]
section
variable (P:Program)
def uh:Nat→List Field→Nat→Bool
  | o,[],n=>o == n
  | o,f::r,n=>f.offset == o && uh (o+P.cellsOf f.type) r n
def g7:Nat→TypeId→Bool
  | 0,_=>false
  | n+1,t=>match P.underlying t with
    | some .bool|some (.int _)|some .string=>P.cellsOf t == 1
    | some (.slice e)=>P.cellsOf t == 1 && decide (0<P.cellsOf e) && g7 n e
    | some (.struct fs)=>uh P 0 fs.toList (P.cellsOf t) && fs.toList.all fun f=>g7 n f.type
    | _=>false
def gZ.ok:Nat→TypeId→gZ→Prop
  | 0,_,_=>False
  | n+1,t,d=>match P.underlying t,d with
    | some .bool,.b _=>True
    | some (.int k),.i k' m=>k'=k∧(Lit.int k m).wf=true
    | some .string,.s x=>x.size≤maxLen
    | some (.slice e),.sl h sz xs=>sz=P.cellsOf e∧h=.v false false∧xs.length≤maxLen∧∀x∈xs,gZ.ok n e x
    | some (.struct fs),.st ds=>ds.length=fs.size∧∀(i:Nat) f d,fs[i]? = some f→ds[i]? = some d→gZ.ok n f.type d
    | _,_=>False
end
section
variable {P:Program} {Γ:cj} {H:Type} {enc:TypeId×Value→H} {W:World}
def hR(W:World):gh where
  m:=fun _ _=>none
  imm:=fun β c=>if β=true then none else match W.heap[c]? with|some (.cells arr _ _)=>some arr|_=>none
theorem NO(W:World):RH (hR W) [] [] [] W:=by
  refine⟨fun b g cs h=>by simp at h,fun i cs h=>by simp at h,rfl,fun i j c h=>by simp at h,fun b g cs _ _ _ _ _ _ _ _ h=>by simp at h,fun b g cs _ _ _ _ h=>by simp at h,?_,fun _ _ _ _ _ h=>by simp at h,fun _ _ _ _ _ _ _ _ _ h=>by simp at h,fun b g c o n h=>by simp[hR]at h⟩
  intro β c arr h
  simp only[hR]at h
  split at h
  · cases h
  · split at h
    · rename_i arr' T fr hh
      injection h with h
      subst h
      exact⟨T,fr,hh⟩
    · cases h
theorem BN{a:Addr}{v:Value}(h:W.cell? a=some v):a.spot=none∧∃arr,(hR W).imm false a.block=some arr∧arr[a.off]? = some v:=by
  unfold World.cell? at h
  split at h
  · rename_i c T fr hh
    split at h
    · cases h
    · rename_i hs
      refine⟨by cases hsp:a.spot<;>simp[hsp]at hs ⊢,c,?_,h⟩
      simp[hR,hh]
  · cases h
theorem Eh(a:Addr)(n:Nat):(a.add n).off=a.off+n:=by unfold Addr.add;split<;>simp_all
theorem yT(a:Addr)(n:Nat):(a.add n).block=a.block:=by unfold Addr.add;split<;>simp_all
theorem pM{ρ ls}{x:AV}{v:Value}(h:RV ρ ls x v):hH ρ ls [x] [v]:=
  ⟨rfl,fun i y hy=>by
    cases i with
    | zero=>simp at hy;subst hy;exact h
    | succ i=>simp at hy⟩
theorem GC:∀(n:Nat) (t:TypeId) (fuel:Nat) (cs:List Value) (x:DataW H×List MemPlace),g7 P n t=true→DataW.trod enc P W 0 (fun _=>true) true fuel t cs=some x→
    ∃d,gZ.ok P n t d∧hH (hR W) [] d.cells cs∧cs.length=P.cellsOf t:=by
  intro n
  induction n with
  | zero=>intro t fuel cs x h;simp[g7]at h
  | succ n ih=>
    intro t fuel cs x hp h
    simp only[g7]at hp
    split at hp
    · rename_i hu
      obtain⟨b,rfl,_⟩:=DataW.trod_bool hu h
      exact⟨.b b,by simp[gZ.ok,hu],pM (.bool _ _),by simpa using(by simpa using hp:P.cellsOf t=1).symm⟩
    · rename_i k hu
      obtain⟨m,rfl,_,hw⟩:=DataW.trod_int hu h
      exact⟨.i k m,by simp[gZ.ok,hu,hw],pM (.int _ _ _),by simpa using(by simpa using hp:P.cellsOf t=1).symm⟩
    · rename_i hu
      obtain⟨b,rfl,_,hs⟩:=DataW.trod_string hu h
      exact⟨.s b,by simp[gZ.ok,hu,hs],pM (.str _ _),by simpa using(by simpa using hp:P.cellsOf t=1).symm⟩
    · rename_i e hu
      simp only[Bool.and_eq_true,beq_iff_eq,decide_eq_true_eq]at hp
      obtain⟨⟨hp1,hp2⟩,hp3⟩:=hp
      rcases DataW.trod_slice hu h with⟨rfl,_⟩|⟨a,len,cap,elems,rest,m,_,rfl,_,_,hl,hm,hlen,hel,_,_⟩
      · exact⟨.sl (.v false false) (P.cellsOf e) [],by simp[gZ.ok,hu],pM (.vsn _ _ _ _),by simp[hp1]⟩
      · have each:∀i,i<len→∃d cs',gZ.ok P n e d∧W.cells? 0 (a.add (i*P.cellsOf e)) (P.cellsOf e)=some cs'∧hH (hR W) [] d.cells cs'∧cs'.length=P.cellsOf e:=by
          intro i hi
          have:=hel i hi
          rw[List.getElem?_eq_getElem (by omega),Option.bind_eq_some_iff]at this
          obtain⟨cs',h1,h2⟩:=this
          obtain⟨d,g1,g2,g3⟩:=ih e m cs' _ hp3 h2
          exact⟨d,cs',g1,h1,g2,g3⟩
        let ds:List gZ:=(List.range len).attach.map fun i=>(each i.1 (List.mem_range.1 i.2)).choose
        have hds:ds.length=len:=by simp[ds]
        have bJ:∀(i:Nat) (d:gZ),ds[i]? = some d→i<len∧∃cs',gZ.ok P n e d∧W.cells? 0 (a.add (i*P.cellsOf e)) (P.cellsOf e)=some cs'∧hH (hR W) [] d.cells cs'∧cs'.length=P.cellsOf e:=by
          intro i d hd
          have hi:i<len:=by have:=aG hd;omega
          refine⟨hi,?_⟩
          have:d=(each i hi).choose:=by
            simp only[ds,List.getElem?_map,Option.map_eq_some_iff]at hd
            obtain⟨x,hx,rfl⟩:=hd
            have hx':x.1=i:=by
              have:=congrArg (Option.map Subtype.val) hx
              simp[hi]at this
              exact this.symm
            obtain⟨y,hy⟩:=x
            subst hx'
            rfl
          rw[this]
          exact(each i hi).choose_spec
        refine⟨.sl (.v false false) (P.cellsOf e) ds,?_,pM ?_,by simp[hp1]⟩
        · simp only[gZ.ok,hu]
          refine⟨trivial,trivial,by omega,fun d hd=>?_⟩
          obtain⟨i,hi⟩:=List.mem_iff_getElem?.1 hd
          obtain⟨_,_,h1,_⟩:=bJ i d hi
          exact h1
        · simp only[sl,gZ.zw]
          rcases Nat.eq_zero_or_pos len with h0|hpos
          · have:ds=[]:=List.length_eq_zero_iff.1 (by omega)
            rw[this,h0]
            exact .vs0 _ false _ false a cap (by simp)
          · have look:∀(i:Nat) (l:List AV),(ds.map gZ.cells)[i]? = some l→i<len∧l.length=P.cellsOf e∧∀(j:Nat) (x:AV),l[j]? = some x→∃v,W.cell? ((a.add (i*P.cellsOf e)).add j)=some v∧RV (hR W) [] x v:=by
              intro i l hl'
              rw[List.getElem?_map,Option.map_eq_some_iff]at hl'
              obtain⟨d,hd,rfl⟩:=hl'
              obtain⟨hi,cs',_,g2,g3,g4⟩:=bJ i d hd
              obtain⟨_,c2,c3⟩:=World.cells?_some g2
              refine⟨hi,by rw[g3.1];exact g4,fun j x hx=>?_⟩
              have hj:j<P.cellsOf e:=by have:=aG hx;have:=g3.1;omega
              have hr:=g3.2 j x hx
              rw[List.getD_eq_getElem?_getD,List.getElem?_eq_getElem (by omega)]at hr
              have hjl:j<cs'.length:=by omega
              exact⟨cs'[j],by rw[c3 j hj,List.getElem?_eq_getElem hjl],by simpa using hr⟩
            have hspot:a.spot=none:=by
              have hd0:ds[0]? = some ds[0]:=List.getElem?_eq_getElem (by omega)
              obtain⟨_,cs',_,g2,_,g4⟩:=bJ 0 _ hd0
              obtain⟨_,c2,c3⟩:=World.cells?_some g2
              have:=c3 0 hp2
              rw[List.getElem?_eq_getElem (by omega)]at this
              have:=(BN this).1
              simpa[Addr.add]using this
            obtain⟨ab,ao,asp⟩:=a
            simp only at hspot
            subst hspot
            have hcell:∀(i j:Nat) (v:Value),W.cell? ((Addr.add ⟨ab,ao,none⟩ (i*P.cellsOf e)).add j)=some v→∃arr,(hR W).imm false ab=some arr∧arr[ao+(i*P.cellsOf e+j)]? = some v:=by
              intro i j v hv
              obtain⟨_,arr,h1,h2⟩:=BN hv
              rw[yT,yT]at h1
              rw[Eh,Eh,Nat.add_assoc]at h2
              exact⟨arr,h1,h2⟩
            have hv:∀i j,∃v,∀l x,(ds.map gZ.cells)[i]? = some l→l[j]? = some x→W.cell? ((Addr.add ⟨ab,ao,none⟩ (i*P.cellsOf e)).add j)=some v∧RV (hR W) [] x v:=by
              intro i j
              by_cases hx:∃l x,(ds.map gZ.cells)[i]? = some l∧l[j]? = some x
              · obtain⟨l,x,h1,h2⟩:=hx
                obtain⟨_,_,h3⟩:=look i l h1
                obtain⟨v,h4,h5⟩:=h3 j x h2
                refine⟨v,fun l' x' e1 e2=>?_⟩
                rw[h1]at e1;injection e1 with e1;subst e1
                rw[h2]at e2;injection e2 with e2;subst e2
                exact⟨h4,h5⟩
              · exact⟨default,fun l x e1 e2=>absurd ⟨l,x,e1,e2⟩ hx⟩
            have:=RV.vs (ρ:=hR W) [] false (P.cellsOf e) false (ds.map gZ.cells) ab ao cap (fun i j=>(hv i j).choose) (by simp[hds];omega) (by simp) (fun i l h=>(look i l h).2.1)
              (fun i l h1 j x h2=>by
                have:=((hv i j).choose_spec l x h1 h2).1
                exact hcell i j _ this)
              (fun i l h1 j x h2=>((hv i j).choose_spec l x h1 h2).2)
            simpa[hds]using this
    · rename_i fs hu
      simp only[Bool.and_eq_true]at hp
      obtain⟨hc,ha⟩:=hp
      obtain⟨xs,m,_,_,hl,hlen,hf⟩:=DataW.trod_struct hu h
      have key:∀(l:List Field) (o k:Nat),uh P o l (P.cellsOf t)=true→(∀f∈l,g7 P n f.type=true)→(∀(i:Nat) (f:Field),l[i]? = some f→∃y,DataW.trod enc P W 0 (fun _=>true) true m f.type ((cs.drop f.offset).take (P.cellsOf f.type))=some y)→
          ∃ds:List gZ,ds.length=l.length∧(∀(i:Nat) f d,l[i]? = some f→ds[i]? = some d→gZ.ok P n f.type d)∧hH (hR W) [] (gZ.ud ds) (cs.drop o):=by
        intro l
        induction l with
        | nil=>
          intro o k h1 _ _
          simp only[uh,beq_iff_eq]at h1
          exact⟨[],rfl,fun i f d h=>by simp at h,by rw[List.drop_of_length_le (by omega)];exact⟨rfl,fun i x h=>by simp[gZ.ud]at h⟩⟩
        | cons f l ihl=>
          intro o k h1 h2 h3
          simp only[uh,Bool.and_eq_true,beq_iff_eq]at h1
          obtain⟨rfl,h1⟩:=h1
          obtain⟨y,hy⟩:=h3 0 f rfl
          obtain⟨d,d1,d2,d3⟩:=ih f.type m _ y (h2 f (by simp)) hy
          obtain⟨ds,e1,e2,e3⟩:=ihl _ k h1 (fun g hg=>h2 g (by simp[hg])) (fun i g hg=>h3 (i+1) g (by simpa using hg))
          refine⟨d::ds,by simp[e1],fun i g d' hg hd=>?_,?_⟩
          · cases i with
            | zero=>simp at hg hd;subst hg;subst hd;exact d1
            | succ i=>exact e2 i g d' (by simpa using hg) (by simpa using hd)
          · have:cs.drop f.offset=(cs.drop f.offset).take (P.cellsOf f.type)++cs.drop (f.offset+P.cellsOf f.type):=by
              conv=>lhs;rw[←List.take_append_drop (P.cellsOf f.type) (cs.drop f.offset)]
              rw[List.drop_drop]
            rw[this]
            exact d2.append e3
      obtain⟨ds,e1,e2,e3⟩:=key fs.toList 0 0 hc (fun f hf'=>List.all_eq_true.1 ha f hf') (fun i f hf'=>by
        have:=hf i f (by simpa using hf')
        have hi:i<xs.length:=by have:=aG hf';simp at this;omega
        exact⟨xs[i],by rw[this,List.getElem?_eq_getElem hi]⟩)
      refine⟨.st ds,?_,by simpa[gZ.cells]using e3,hl⟩
      simp only[gZ.ok,hu]
      exact⟨by simpa using e1,fun i f d h1 h2=>e2 i f d (by simpa using h1) h2⟩
    · cases hp
theorem nO{α β:Type}{f g:α→Option β}:∀{l:List α} {r:List β},(∀x∈l,∀y∈r,f x=some y→g x=some y)→l.mapM f=some r→l.mapM g=some r
  | [],r,_,h=>by simpa using h
  | a::l,r,hi,h=>by
    rw[List.mapM_cons]at h ⊢
    cases ha:f a with
    | none=>simp[ha]at h
    | some b=>
      cases hl:l.mapM f with
      | none=>simp[ha,hl]at h
      | some bs=>
        simp[ha,hl]at h
        subst h
        have h1:=hi a (by simp) b (by simp) ha
        have h2:=nO (l:=l) (r:=bs) (g:=g) (fun x hx y hy=>hi x (by simp[hx]) y (by simp[hy])) hl
        simp[h1,h2]
variable {W':World}
theorem GW(hk:∀c,c<W.heap.size→W'.heap[c]? = W.heap[c]?){a:Addr}{v:Value}(h:W.cell? a=some v):W'.cell? a=some v:=by
  unfold World.cell? at h ⊢
  have:a.block<W.heap.size:=by
    rcases Nat.lt_or_ge a.block W.heap.size with h'|h'
    · exact h'
    · rw[Array.getElem?_eq_none h']at h;cases h
  rw[hk _ this]
  exact h
theorem EG(hk:∀c,c<W.heap.size→W'.heap[c]? = W.heap[c]?){a:Addr}{n:Nat}{cs:List Value}(h:W.cells? 0 a n=some cs):W'.cells? 0 a n=some cs:=by
  unfold World.cells? at h ⊢
  simp only[Nat.zero_le,if_true]at h ⊢
  exact nO (fun x _ y _ e=>GW hk e) h
theorem Dn(hk:∀c,c<W.heap.size→W'.heap[c]? = W.heap[c]?):∀(n:Nat) (t:TypeId) (fuel:Nat) (cs:List Value) (x:DataW H×List MemPlace),g7 P n t=true→DataW.trod enc P W 0 (fun _=>true) true fuel t cs=some x→
    ∀sp:Nat→Bool,(∀p∈x.2,sp p.block=true)→DataW.trod enc P W' 0 sp true fuel t cs=some x:=by
  intro n
  induction n with
  | zero=>intro t fuel cs x h;simp[g7]at h
  | succ n ih=>
    intro t fuel cs x hp h sp hsp
    cases fuel with
    | zero=>simp[DataW.trod]at h
    | succ m=>
    simp only[g7]at hp
    split at hp
    · rename_i hu
      obtain⟨b,rfl,rfl⟩:=DataW.trod_bool hu h
      simp[DataW.trod,hu]
    · rename_i k hu
      obtain⟨z,rfl,rfl,hw⟩:=DataW.trod_int hu h
      simp[DataW.trod,hu,hw]
    · rename_i hu
      obtain⟨b,rfl,rfl,hs⟩:=DataW.trod_string hu h
      simp[DataW.trod,hu,hs]
    · rename_i e hu
      simp only[Bool.and_eq_true,beq_iff_eq,decide_eq_true_eq]at hp
      obtain⟨⟨hp1,hp2⟩,hp3⟩:=hp
      rcases DataW.trod_slice hu h with⟨rfl,rfl⟩|⟨a,len,cap,_,_,_,_,rfl,_,_,hl,hm,_⟩
      · simp[DataW.trod,hu]
      · unfold DataW.trod at h ⊢
        rw[hu]at h ⊢
        simp only[Nat.zero_le,hl,hm,and_self,if_true]at h ⊢
        rw[Option.bind_eq_some_iff]at h ⊢
        obtain⟨elems,he,h⟩:=h
        rw[Option.map_eq_some_iff]at h
        obtain⟨rest,hr,rfl⟩:=h
        have sub:∀y∈elems++rest,∀p∈y.2,sp p.block=true:=fun y hy p hp=>hsp p (by
          refine List.mem_append_right _ (List.mem_flatMap.2 ⟨y,hy,hp⟩))
        have imp:∀(i:Nat) (y:DataW H×List MemPlace),y∈elems++rest→((W.cells? 0 (a.add (i*P.cellsOf e)) (P.cellsOf e)).bind (DataW.trod enc P W 0 (fun _=>true) true m e))=some y→
            ((W'.cells? 0 (a.add (i*P.cellsOf e)) (P.cellsOf e)).bind (DataW.trod enc P W' 0 sp true m e))=some y:=by
          intro i y hy h
          rw[Option.bind_eq_some_iff]at h ⊢
          obtain⟨cs',h1,h2⟩:=h
          exact⟨cs',EG hk h1,ih e m cs' y hp3 h2 sp (sub y hy)⟩
        refine⟨elems,nO (fun i _ y hy=>imp i y (by simp[hy])) he,?_⟩
        rw[Option.map_eq_some_iff]
        refine⟨rest,?_,rfl⟩
        have hr':(List.range (cap-len)).mapM (fun j=>(W'.cells? 0 (a.add ((len+j)*P.cellsOf e)) (P.cellsOf e)).bind (DataW.trod enc P W' 0 sp true m e))=some rest:=
          nO (fun i _ y hy=>imp (len+i) y (by simp[hy])) hr
        cases hs:sp a.block with
        | true=>simpa using hr'
        | false=>
          have hz:rest=[]:=by
            cases rest with
            | nil=>rfl
            | cons y r=>
              have hpos:0<(elems.length+(y::r).length)*P.cellsOf e:=Nat.mul_pos (by simp only[List.length_cons];omega) hp2
              have:=hsp (.cell a.block (a.off+0)) (by
                simp only[List.mem_append]
                refine .inl ?_
                simp only[MemPlace.row,List.mem_map,List.mem_range]
                exact⟨0,hpos,rfl⟩)
              simp[MemPlace.block,hs]at this
          subst hz
          simp
    · rename_i fs hu
      simp only[Bool.and_eq_true]at hp
      obtain⟨hc,ha⟩:=hp
      obtain⟨xs0,m',hm',_,hl,_,_⟩:=DataW.trod_struct hu h
      unfold DataW.trod at h ⊢
      rw[hu]at h ⊢
      simp only[hl,if_true]at h ⊢
      rw[Option.map_eq_some_iff]at h ⊢
      obtain⟨xs,hx,rfl⟩:=h
      refine⟨xs,nO (fun f hf y hy e=>ih f.type m _ y (List.all_eq_true.1 ha f hf) e sp fun p hp=>hsp p ?_) hx,rfl⟩
      simp only[List.mem_flatMap]
      exact⟨y,hy,hp⟩
    · cases hp
def gZ.av:gZ→AV
  | .b x=>.bool x
  | .i k n=>.int k n
  | .s x=>.str x
  | .sl h sz xs=>AM.sl h sz (gZ.qx xs)
  | .st fs=>.agg (gZ.ud fs)
theorem G1{n:Nat}{t:TypeId}{v:Value}{r:Reach}{base:Nat}{x:DataW H}{ps:List MemPlace}(hp:g7 P n t=true)(hv:Value.okWide P W r base t v)(h:DataW.Trod enc P W 0 (fun _=>true) true t v x ps):
    ∃d,gZ.ok P n t d∧RV (hR W) [] d.av v:=by
  obtain⟨fuel,h⟩:=h
  obtain⟨d,h1,h2,h3⟩:=GC n t fuel _ _ hp h
  refine⟨d,h1,?_⟩
  cases n with
  | zero=>simp[g7]at hp
  | succ n=>
  have one:∀(y:AV),d.cells=[y]→(∀cs,v≠.agg cs)→RV (hR W) [] y v:=by
    intro y hy hn
    have hc:v.cells.toList=[v]:=by
      cases v<;>first|rfl|exact absurd rfl (hn _)
    rw[hy,hc]at h2
    simpa using h2.2 0 y rfl
  unfold Value.okWide at hv
  simp only[gZ.ok]at h1
  simp only[g7]at hp
  split at hp
  · rename_i hu
    rw[hu]at h1 hv
    cases d<;>simp at h1
    exact one _ rfl (fun cs e=>by subst e;simp[Cell.okWide,Cell.ok,hu]at hv)
  · rename_i k hu
    rw[hu]at h1 hv
    cases d<;>simp at h1
    exact one _ rfl (fun cs e=>by subst e;simp[Cell.okWide,Cell.ok,hu]at hv)
  · rename_i hu
    rw[hu]at h1 hv
    cases d<;>simp at h1
    exact one _ rfl (fun cs e=>by subst e;simp[Cell.okWide,Cell.ok,hu]at hv)
  · rename_i e hu
    rw[hu]at h1 hv
    cases d<;>simp at h1
    exact one _ rfl (fun cs e=>by subst e;simp[Cell.okWide,Cell.ok,hu]at hv)
  · rename_i fs hu
    rw[hu]at h1 hv
    cases d<;>simp at h1
    obtain⟨cs,rfl,_⟩:=hv
    simp only[gZ.cells,Value.cells]at h2
    exact .agg _ _ _ (by simpa using h2.1) (fun i x hx=>by have:=h2.2 i x hx;rwa[dh]at this)
  · cases hp
def iX(P:Program)(n:Nat):List TypeId→List gZ→Prop
  | [],[]=>True
  | t::ts,d::ds=>gZ.ok P n t d∧iX P n ts ds
  | _,_=>False
theorem zP{n:Nat}{r:Reach}{base:Nat}:∀{ts:List TypeId} {vs:List Value} {xs:List (DataW H)} {ps:List MemPlace},(∀t∈ts,g7 P n t=true)→(∀(j:Nat) t v,ts[j]? = some t→vs[j]? = some v→Value.okWide P W r base t v)→
    DataW.TrodAll enc P W 0 (fun _=>true) true ts vs xs ps→∃ds,iX P n ts ds∧hH (hR W) [] (ds.map gZ.av) vs∧xs.length=ts.length∧
      ∀{W':World},(∀c,c<W.heap.size→W'.heap[c]? = W.heap[c]?)→∀sp:Nat→Bool,(∀p∈ps,sp p.block=true)→DataW.TrodAll enc P W' 0 sp true ts vs xs ps
  | [],vs,xs,ps,hp,hv,h=>by
    obtain⟨rfl,rfl,rfl⟩:=trodAll_nil h
    exact⟨[],trivial,⟨rfl,fun i x hx=>by simp at hx⟩,rfl,fun _ _ _=>rfl⟩
  | t::ts,vs,xs,ps,hp,hv,h=>by
    obtain⟨v,vs',x,xs',p,q,rfl,rfl,rfl,h1,h2⟩:=trodAll_cons h
    obtain⟨d,d1,d2⟩:=G1 (hp t (by simp)) (hv 0 t v rfl rfl) h1
    obtain⟨ds,e1,e2,e3,e4⟩:=zP (fun t ht=>hp t (by simp[ht])) (fun j t v a b=>hv (j+1) t v (by simpa using a) (by simpa using b)) h2
    refine⟨d::ds,⟨d1,e1⟩,(pM d2).append e2,by simp[e3],fun hk sp hsp=>?_⟩
    obtain⟨fuel,hf⟩:=h1
    exact⟨p,q,⟨fuel,Dn hk n t fuel _ _ (hp t (by simp)) hf sp fun y hy=>hsp y (by simp[hy])⟩,e4 hk sp (fun y hy=>hsp y (by simp[hy])),rfl⟩
theorem EU{n:Nat}{f:FuncId}{fn:Func}{s:ChangeSpec}{apart fresh handsOn again:Bool}{args:Array Value}{ds gs:List (DataW H)}{before:List MemPlace}{tb:TypeId}{base:Nat}
    (hp:∀t∈fn.params.toList,g7 P n t=true) (hvars:s.vars=[]) (hres:fn.resultTypes=#[tb]) (htb:P.underlying tb=some .bool)
    (hspec:∀xs:List (DataW H),xs.length=fn.params.toList.length→s.fn H xs={ results:=[.lit (.bool true)],args:=xs })
    (t:∀dats:List gZ,iX P n fn.params.toList dats→T P Γ f (dats.map gZ.av) [] fun v _=>v=.bool true)
    (hval:∀(j:Nat) t v,fn.params[j]? = some t→args[j]? = some v→Value.okWide P W .any base t v)
    (hW:DataW.Whole enc P fn.params.toList s.vars apart W args.toList ds gs before) (hΓ:Oc Γ (hR W)):
    Calls P f args W fun e W'=>∃v,e=.returned v∧s.post enc P fn apart fresh handsOn again W args v W':=by
  have hW':=hW
  obtain⟨p,q,hA,hV,rfl,hz,hn⟩:=hW
  rw[hvars]at hV
  obtain⟨rfl,rfl⟩:=trodVars_none hV
  obtain⟨dats,o1,o2,o3,o4⟩:=zP hp (fun j t v a b=>hval j t v (by simpa using a) (by simpa using b)) hA
  have hlen:args.toList.toArray=args:=by simp
  have ht:=(t dats o1).2 (hR W) W args.toList (NO W) hΓ o2
  rw[hlen]at ht
  refine ht.mono ?_
  rintro e W2 ⟨v,cv,ρ',h',rfl,rv,rh,ev,rfl⟩
  cases rv
  have hk:∀c,c<W.heap.size→W2.heap[c]? = W.heap[c]?:=fun c hc=>ev.fr c hc (by
    rintro(⟨i,h⟩|⟨b,g,cs,o,n,h,_⟩)
    · simp at h
    · simp at h)
  have kept:W.keptBut W2 fun _=>False:=by
    refine⟨ev.os,ev.out,fun i hi=>?_⟩
    rw[hk i hi]
    split
    · rename_i h1 h2
      rw[h1]at h2
      injection h2 with h2
      injection h2 with h2 h3 h4
      subst h2;subst h3;subst h4
      exact⟨rfl,rfl,rfl,fun _ _=>rfl⟩
    · rename_i h1 h2
      rw[h1]at h2
      injection h2 with h2
      injection h2 with h2 h3
      exact .inr ⟨h2.symm,h3.symm⟩
    · rfl
  have hfz:∀a:Addr,a.block<W.heap.size→W2.frozen? a=W.frozen? a:=fun a ha=>by
    unfold World.frozen?;rw[hk _ ha]
  have hsp:=hspec (ds++[]) (by simpa using o3)
  refine⟨.bool true,rfl,?_⟩
  have hold:∀x∈p++[],(fun b=>decide (b<W.heap.size)) x.block=true:=fun x hx=>by simpa using hW'.lt x hx
  have hp1:p++[]=p:=by simp
  have hr:∀(b:Nat) (sp:Nat→Bool) (hd:Bool),DataW.TrodAll enc P W2 b sp hd fn.resultTypes.toList ((Value.bool true).resultList fn.resultTypes.size) (s.fn H (ds++[])).results []:=by
    intro b sp hd
    rw[hsp,hres]
    exact trodAll_mk1 (⟨1,by simp[DataW.trod,htb,Value.cells]⟩:DataW.Trod enc P W2 b sp hd tb (.bool true) (.lit (.bool true)) [])
  have ha:∀sp:Nat→Bool,(∀x∈p,sp x.block=true)→DataW.TrodAll enc P W2 0 sp true fn.params.toList args.toList (s.fn H (ds++[])).args p:=by
    intro sp h
    rw[hsp]
    simp only[List.append_nil]
    exact o4 hk sp h
  have hv:∀sp:Nat→Bool,DataW.TrodVars enc P W2 sp s.vars (s.fn H (ds++[])).vars []:=by
    intro sp
    rw[hsp,hvars]
    exact rfl
  refine⟨ds,[],p++[],[],p,[],hW',hr _ _ _,ha _ (fun x hx=>hold x (by simpa using hx)),hv _,World.keptBut_mono (fun x hx=>hx.elim) kept,fun _=>?_⟩
  refine⟨?_,_,_,([]++p)++[],⟨[]++p,[],trodAll_append (ha _ (fun _ _=>rfl)) (hr _ _ _),hv _,rfl,?_,?_⟩,?_⟩
  · intro j ty r h1 h2
    rw[hres]at h1 h2
    cases j with
    | zero=>
      simp at h1
      subst h1
      simp[Value.resultList]at h2
      subst h2
      simp[Value.okWide,htb,Cell.okWide,Cell.ok]
    | succ j=>simp at h1
  · intro b off hb
    have hb':MemPlace.cell b off∈p++[]:=by simpa using hb
    rw[hfz _ (by simpa[MemPlace.block]using hW'.lt _ hb')]
    exact hz b off hb'
  · intro ha'
    have:=hn ha'
    simpa using this
  · intro x hx _
    simpa using hx
theorem FQ{n:Nat}{f:FuncId}{fn:Func}{s:ChangeSpec}{apart fresh handsOn again:Bool}{args:Array Value}{ds gs:List (DataW H)}{before:List MemPlace}{tb:TypeId}{base:Nat}
    (hp:∀t∈fn.params.toList,g7 P n t=true) (hvars:s.vars=[]) (hres:fn.resultTypes=#[tb]) (htb:P.underlying tb=some .bool)
    (hspec:∀xs:List (DataW H),xs.length=fn.params.toList.length→s.fn H xs={ results:=[.lit (.bool true)],args:=xs })
    (t:∀dats:List gZ,iX P n fn.params.toList dats→T P (fun _=>none) f (dats.map gZ.av) [] fun v _=>v=.bool true)
    (hval:∀(j:Nat) t v,fn.params[j]? = some t→args[j]? = some v→Value.okWide P W .any base t v)
    (hW:DataW.Whole enc P fn.params.toList s.vars apart W args.toList ds gs before):
    Calls P f args W fun e W'=>∃v,e=.returned v∧s.post enc P fn apart fresh handsOn again W args v W':=
  EU hp hvars hres htb hspec t hval hW (fun g cs h=>by cases h)
theorem iX.one{n:Nat}{t0:TypeId}{ds:List gZ}(h:iX P n [t0] ds):∃d0,ds=[d0]∧gZ.ok P n t0 d0:=
  match ds,h with|[d0],h=>⟨d0,rfl,h.1⟩
theorem iX.cons{n:Nat}{t0:TypeId}{ts:List TypeId}{ds:List gZ}(h:iX P n (t0::ts) ds):∃d0 ds',ds=d0::ds'∧gZ.ok P n t0 d0∧iX P n ts ds':=
  match ds,h with|d0::ds',h=>⟨d0,ds',rfl,h.1,h.2⟩
theorem iX.nil{n:Nat}{ds:List gZ}(h:iX P n [] ds):ds=[]:=match ds,h with|[],_=>rfl
theorem I7{n:Nat}{t:TypeId}{k:IntKind}(h1:P.underlying t=some (.int k)){d:gZ}(h:gZ.ok P (n+1) t d):∃m:Int,d=.i k m∧(Lit.int k m).wf=true:=by
  simp only[gZ.ok,h1]at h
  cases d<;>simp only at h
  obtain⟨rfl,h⟩:=h
  exact⟨_,rfl,h⟩
theorem OE{n:Nat}{t e:TypeId}(h1:P.underlying t=some (.slice e)){d:gZ}(h:gZ.ok P (n+1) t d):∃xs,d=.sl (.v false false) (P.cellsOf e) xs∧xs.length≤maxLen∧∀x∈xs,gZ.ok P n e x:=by
  simp only[gZ.ok,h1]at h
  cases d<;>simp only at h
  obtain⟨rfl,rfl,h⟩:=h
  exact⟨_,rfl,h⟩
theorem zD{α:Type}{n:Nat}{e:TypeId}(cells:α→List AV)(Q:α→Prop)(each:∀d:gZ,gZ.ok P n e d→∃a:α,d.cells=cells a∧Q a):∀{l:List gZ},(∀x∈l,gZ.ok P n e x)→∃zs:List α,l.length=zs.length∧gZ.qx l=zs.map cells∧∀z∈zs,Q z
  | [],_=>⟨[],rfl,rfl,by simp⟩
  | x::l,h=>by
    obtain⟨zs,e1,e2,e3⟩:=zD cells Q each (l:=l) (fun y hy=>h y (by simp[hy]))
    obtain⟨a,ha,hq⟩:=each x (h x (by simp))
    exact⟨a::zs,by simp[e1],by simp[gZ.qx,ha,e2],by intro z hz;rcases List.mem_cons.1 hz with rfl|hz;exact hq;exact e3 z hz⟩
end
end Go.AM
namespace Go.AM
end Go.AM
namespace Go.AM
section
variable {P:Program} {Θ:mQ} {Γ:cj}
theorem MI(z:List AV):sub z 0 0=some []:=by simp[sub]
theorem Mr(a:AV)(z:List AV)(n:Nat):sub (a::z) 0 (n+1)=(sub z 0 n).map (a :: ·):=by
  simp only[sub,Nat.zero_add,List.length_cons,List.drop_zero]
  by_cases h:n≤z.length
  · rw[if_pos (by omega),if_pos h];rfl
  · rw[if_neg (by omega),if_neg h];rfl
theorem Kn(a:AV)(z:List AV)(o n:Nat):sub (a::z) (o+1) n=sub z o n:=by
  simp only[sub,List.length_cons,List.drop_succ_cons]
  by_cases h:o+n≤z.length
  · rw[if_pos (by omega),if_pos h]
  · rw[if_neg (by omega),if_neg h]
def mW:List AV→Nat→List AV→Option (List AV)
  | z,0,[]=>some z
  | _::z,0,x::vs=>if bK x=true then (mW z 0 vs).map (x :: ·)else none
  | a::z,n+1,vs=>(mW z n vs).map (a :: ·)
  | [],0,_::_=>none
  | [],_+1,_=>none
theorem uj:∀(z:List AV) (o:Nat) (vs z':List AV),mW z o vs=some z'→o+vs.length≤z.length∧vs.all bK=true∧z'=cB z o vs
  | z,0,[],z',h=>by simp[mW]at h;subst h;simp[cB]
  | a::z,0,x::vs,z',h=>by
    simp only[mW]at h
    split at h
    · rename_i hx
      rw[Option.map_eq_some_iff]at h
      obtain⟨y,h1,rfl⟩:=h
      obtain⟨h2,h3,rfl⟩:=uj z 0 vs y h1
      refine⟨by simp at h2 ⊢;omega,by simp[hx,h3],?_⟩
      simp[cB]
    · cases h
  | a::z,n+1,vs,z',h=>by
    simp only[mW,Option.map_eq_some_iff]at h
    obtain⟨y,h1,rfl⟩:=h
    obtain⟨h2,h3,rfl⟩:=uj z n vs y h1
    refine⟨by simp;omega,h3,?_⟩
    simp[cB,show n+1+vs.length=(n+vs.length)+1 by omega]
  | [],0,_::_,_,h=>by simp[mW]at h
  | [],_+1,_,_,h=>by simp[mW]at h
theorem Nv(z:List AV):mW z 0 []=some z:=by cases z<;>rfl
theorem Kp(a x:AV)(z vs:List AV):mW (a::z) 0 (x::vs)=if bK x=true then (mW z 0 vs).map (x :: ·)else none:=rfl
theorem Na(a:AV)(z vs:List AV)(n:Nat):mW (a::z) (n+1) vs=(mW z n vs).map (a :: ·):=rfl
theorem cU{e:List AV}{L zs:List (List AV)}{h:AH}{i off:Nat}{z vs z':List AV}(hi:zs[i]? = some z)(hs:mW z off vs=some z'):(St.mk e (L++zs) h).store (.lp (L.length+i) off) vs=some ⟨e,L++zs.set i z',h⟩:=by
  obtain⟨h1,h2,rfl⟩:=uj z off vs z' hs
  have hl:(L++zs)[L.length+i]? = some z:=by rw[List.getElem?_append_right (by omega)];simpa using hi
  simp only[St.store,hl,Option.bind_some,if_pos h1,h2,if_true]
  rw[List.set_append_right _ _ (by omega)]
  simp
theorem cT{e:List AV}{L zs:List (List AV)}{h:AH}{i off n:Nat}{z:List AV}(hi:zs[i]? = some z):(St.mk e (L++zs) h).cells (.lp (L.length+i) off) n=sub z off n:=by
  have hl:(L++zs)[L.length+i]? = some z:=by rw[List.getElem?_append_right (by omega)];simpa using hi
  simp only[St.cells,hl,Option.bind_some]
theorem WO(e:List AV)(L zs:List (List AV))(z:List AV)(h:AH)(off n:Nat):(St.mk e (L++z::zs) h).cells (.lp L.length off) n=sub z off n:=cT (i:=0) rfl
theorem Wj(e:List AV)(L zs:List (List AV))(a z:List AV)(h:AH)(off n:Nat):(St.mk e (L++a::z::zs) h).cells (.lp (L.length+1) off) n=sub z off n:=cT (i:=1) rfl
theorem WV(e:List AV)(L zs:List (List AV))(a b z:List AV)(h:AH)(off n:Nat):(St.mk e (L++a::b::z::zs) h).cells (.lp (L.length+2) off) n=sub z off n:=cT (i:=2) rfl
theorem WT(e:List AV)(L zs:List (List AV))(a b c z:List AV)(h:AH)(off n:Nat):(St.mk e (L++a::b::c::z::zs) h).cells (.lp (L.length+3) off) n=sub z off n:=cT (i:=3) rfl
def jT(f:List AV→St)(alt:Option St):Option (List AV)→Option St|some z=>some (f z)|none=>alt
def hS(s:St)(a:AV)(vs:List AV):Option St:=s.store a vs
theorem Nz(f:List AV→St)(alt:Option St)(z:List AV):jT f alt (some z)=some (f z):=rfl
theorem eF{s:St}{a:AV}{vs:List AV}{o:Option (List AV)}{f:List AV→St}(h:∀z,o=some z→s.store a vs=some (f z)):s.store a vs=jT f (hS s a vs) o:=by
  cases o with
  | none=>rfl
  | some z=>exact h z rfl
theorem Wx(e:List AV)(L zs:List (List AV))(z:List AV)(h:AH)(off:Nat)(vs:List AV):(St.mk e (L++z::zs) h).store (.lp L.length off) vs=jT (fun z'=>⟨e,L++z'::zs,h⟩) (hS ⟨e,L++z::zs,h⟩ (.lp L.length off) vs) (mW z off vs):=
  eF fun _ hs=>cU (i:=0) rfl hs
theorem W7(e:List AV)(L zs:List (List AV))(a z:List AV)(h:AH)(off:Nat)(vs:List AV):(St.mk e (L++a::z::zs) h).store (.lp (L.length+1) off) vs=jT (fun z'=>⟨e,L++a::z'::zs,h⟩) (hS ⟨e,L++a::z::zs,h⟩ (.lp (L.length+1) off) vs) (mW z off vs):=
  eF fun _ hs=>cU (i:=1) rfl hs
theorem Vn(e:List AV)(L zs:List (List AV))(a b z:List AV)(h:AH)(off:Nat)(vs:List AV):(St.mk e (L++a::b::z::zs) h).store (.lp (L.length+2) off) vs=jT (fun z'=>⟨e,L++a::b::z'::zs,h⟩) (hS ⟨e,L++a::b::z::zs,h⟩ (.lp (L.length+2) off) vs) (mW z off vs):=
  eF fun _ hs=>cU (i:=2) rfl hs
theorem Wl(e:List AV)(L zs:List (List AV))(a b c z:List AV)(h:AH)(off:Nat)(vs:List AV):(St.mk e (L++a::b::c::z::zs) h).store (.lp (L.length+3) off) vs=jT (fun z'=>⟨e,L++a::b::c::z'::zs,h⟩) (hS ⟨e,L++a::b::c::z::zs,h⟩ (.lp (L.length+3) off) vs) (mW z off vs):=
  eF fun _ hs=>cU (i:=3) rfl hs
theorem Wy(L:List (List AV))(a:List AV):(L++[a]).length=L.length+1:=by simp
theorem Xp(L:List (List AV))(a b:List AV):(L++[a,b]).length=L.length+2:=by simp
theorem Wm(L:List (List AV))(a b c:List AV):(L++[a,b,c]).length=L.length+3:=by simp
theorem Wr(L:List (List AV))(a z:List AV):(L++[a])++[z]=L++[a,z]:=by simp
theorem W8(L:List (List AV))(a b z:List AV):(L++[a,b])++[z]=L++[a,b,z]:=by simp
theorem Xl(L:List (List AV))(a b c z:List AV):(L++[a,b,c])++[z]=L++[a,b,c,z]:=by simp
theorem I6(k:IntKind)(n:Int):bK (.int k n)=true:=rfl
theorem UF(b:Bool):bK (.bool b)=true:=rfl
theorem Uf(b:ByteArray):bK (.str b)=true:=rfl
theorem KJ(s:SH)(sz:Nat)(xs:List (List AV)):bK (sl s sz xs)=true:=by cases s<;>rfl
theorem Mn(b g off len cap sz:Nat)(ex:Bool):bK (.gs b g off len cap sz ex)=true:=rfl
theorem At{α β:Type}(f:α→β)(x:α):Option.map f (some x)=some (f x):=rfl
theorem PB{α β:Type}(f:α→Option β)(x:α):Option.bind (some x) f=f x:=rfl
theorem Tj(s:St)(n:Nat)(a:AV)(cs:List AV):AF s n a (some cs)=if cs.length=n then .Fs (s.store a cs)else .stuck:=rfl
theorem S9:List.length ([]:List AV)=0:=rfl
theorem Q9(x:AV)(xs:List AV):(x::xs).length=xs.length+1:=rfl
theorem Qi(l:List AV):l.drop 0=l:=rfl
theorem Sc(a:AV)(l:List AV)(n:Nat):(a::l).drop (n+1)=l.drop n:=rfl
theorem Rb(n:Nat):0+n=n:=Nat.zero_add n
def kE(v:AV):Option Nat:=(Fo v).bind fun i=>if 0≤i then some i.toNat else none
def u0(k:SK)(s:St)(v hi:AV):AR:=match kE hi with|some h=>.iH s (jn k v 0 (some h) none)|none=>.stuck
def tS(k:SK)(s:St)(v lo:AV):AR:=match kE lo with|some l=>.iH s (jn k v l none none)|none=>.stuck
def tT(k:SK)(s:St)(v lo hi:AV):AR:=match kE lo,kE hi with|some l,some h=>.iH s (jn k v l (some h) none)|_,_=>.stuck
theorem tX(gl:Bool)(s:St)(k:SK)(x y:X):step Γ gl s (.slice k x none (some y) none)=u0 k s (s.eval Γ x) (s.eval Γ y):=by
  simp only[step,u0,tK,kE]
  cases(Fo (s.eval Γ y)).bind fun i=>if 0≤i then some i.toNat else none<;>rfl
theorem pJ(gl:Bool)(s:St)(k:SK)(x y:X):step Γ gl s (.slice k x (some y) none none)=tS k s (s.eval Γ x) (s.eval Γ y):=by
  simp only[step,tS,tK,kE]
  cases(Fo (s.eval Γ y)).bind fun i=>if 0≤i then some i.toNat else none<;>rfl
theorem zr(gl:Bool)(s:St)(k:SK)(x y z:X):step Γ gl s (.slice k x (some y) (some z) none)=tT k s (s.eval Γ x) (s.eval Γ y) (s.eval Γ z):=by
  simp only[step,tT,tK,kE]
  cases(Fo (s.eval Γ y)).bind fun i=>if 0≤i then some i.toNat else none<;>cases(Fo (s.eval Γ z)).bind fun i=>if 0≤i then some i.toNat else none<;>rfl
def SH.cut(s:SH)(b:Bool):SH:=match s with|.nil=>.nil|.v β ex=>.v β (ex && b)
theorem SH.N6{s:SH}{n m:Nat}{b:Bool}(h:s.ok n)(hm:m≤n):(s.cut b).ok m:=by
  intro e
  cases s with
  | nil=>have:=h rfl;omega
  | v β ex=>cases e
theorem G6(s:St)(S:SH)(sz:Nat)(xs:List (List AV))(k:IntKind){n:Nat}(hs:S.ok xs.length)(hn:n≤xs.length):u0 (.sl sz) s (sl S sz xs) (.int k (n:Int))=.val (sl (S.cut (n == xs.length)) sz (xs.take n)) s:=by
  cases S with
  | nil=>
    have h0:=hs rfl
    have:n=0:=by omega
    subst this
    have:xs=[]:=List.length_eq_zero_iff.1 h0
    subst this
    simp[u0,kE,Fo,sl,jn,SH.cut,AR.iH]
  | v β ex=>simp[u0,kE,Fo,sl,jn,SH.cut,AR.iH,hn]
theorem bk{e:List AV}{l:List (List AV)}{H:AH}{b off n g:Nat}{cs:List AV}(h:bJ H b=some (g,cs)):(St.mk e l H).cells (.gp b g off) n=sub cs off n:=by
  simp only[St.cells,h,Option.bind_some,if_true]
end
theorem EB:type_of% (And.intro @MI (And.intro @Mr (And.intro @Kn (And.intro @Nv (And.intro @Kp (And.intro @Na (And.intro @WO (And.intro @Wj (And.intro @WV (And.intro @WT (And.intro @Wx (And.intro @W7 (And.intro @Vn (And.intro @Wl (And.intro @Nz (And.intro @Wy (And.intro @Xp (And.intro @Wm (And.intro @Wr (And.intro @W8 (And.intro @Xl (And.intro @I6 (And.intro @UF (And.intro @Uf (And.intro @KJ (And.intro @Mn (And.intro @At (And.intro @tX (And.intro @pJ (And.intro @zr (And.intro @Qi (And.intro @Sc (And.intro @PB (And.intro @Tj (And.intro @S9 (And.intro @Q9 (@Rb))))))))))))))))))))))))))))))))))))):=And.intro @MI (And.intro @Mr (And.intro @Kn (And.intro @Nv (And.intro @Kp (And.intro @Na (And.intro @WO (And.intro @Wj (And.intro @WV (And.intro @WT (And.intro @Wx (And.intro @W7 (And.intro @Vn (And.intro @Wl (And.intro @Nz (And.intro @Wy (And.intro @Xp (And.intro @Wm (And.intro @Wr (And.intro @W8 (And.intro @Xl (And.intro @I6 (And.intro @UF (And.intro @Uf (And.intro @KJ (And.intro @Mn (And.intro @At (And.intro @tX (And.intro @pJ (And.intro @zr (And.intro @Qi (And.intro @Sc (And.intro @PB (And.intro @Tj (And.intro @S9 (And.intro @Q9 (@Rb))))))))))))))))))))))))))))))))))))
end Go.AM
namespace Go.AM
section
variable {P:Program} {Θ:mQ} {Γ:cj}
abbrev NL(P:Program)(Θ:mQ)(Γ:cj)(f:FuncId)(c:C)(rs:List RS)(us:List AV):Prop:=
  ∀{a0:AV} {h:AH} {K:AV→AH→Prop},TC P Θ Γ c (bF rs K) ⟨a0::us,[],h⟩→T P Γ f [a0] h K
end
end Go.AM
