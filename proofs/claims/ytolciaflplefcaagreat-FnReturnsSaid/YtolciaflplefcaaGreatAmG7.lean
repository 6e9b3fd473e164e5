import Derived.Test.YtolciaflplefcaaGreatAmG6
import Derived.ChangeArms
import Derived.ChangeSame
import Derived.ChangeOld
import Derived.ChangeShapes
import Derived.RowKit
import Derived.RowKit3
set_option linter.unusedVariables false
set_option linter.unusedSimpArgs false
open List renaming getElem?_eq_getElem→Aaa,getElem?_append_right→Aab,getD_eq_getElem?_getD→Aac,getElem?_append_left→Aad,mem_append→Aaf,mem_of_getElem?→Aag,mem_flatten→Aai,getElem?_map→Aak,mem_iff_getElem?→Aal,mem_cons→Aam,mem_cons_of_mem→Aan,length_cons→Aap,flatten_cons→Aas,all_eq_true→Aat,mem_flatMap→Aau,mem_range→Aav
open Option renaming map_eq_some_iff→Aae,bind_eq_some_iff→Aaj,bind_some→Aaq
open Bool renaming and_eq_true→Aah
open Nat renaming zero_add→Aao,lt_or_ge→Aar,sub_self→Aaw,zero_le→Aax,le_refl→Aay
namespace Go.AM
open Go.ChangeShapes
inductive kR where
 | b (x:Bool)|i (k:IntKind) (n:Int)|s (x:ByteArray)|sl (h:SH) (sz:Nat) (xs:List kR)|st (fs:List kR)
 deriving Inhabited
mutual
def kR.cells:kR→List AV
 | .b x=>[.bool x]
 | .i k n=>[.int k n]
 | .s x=>[.str x]
 | .sl h sz xs=>[AM.sl h sz (kR.xw xs)]
 | .st fs=>kR.A5 fs
def kR.xw:List kR→List (List AV)
 | []=>[]
 | d::r=>d.cells::kR.xw r
def kR.A5:List kR→List AV
 | []=>[]
 | d::r=>d.cells++kR.A5 r
end
theorem kR.CP:∀(xs:List kR),kR.xw xs=xs.map kR.cells
 | []=>rfl
 | d::r=>by simp[kR.xw,kR.CP r]
section
variable (P:Program)
def B4:Nat→List Field→Nat→Bool
 | o,[],n=>o == n
 | o,f::r,n=>f.offset == o && B4 (o+P.cellsOf f.type) r n
def kW:Nat→TypeId→Bool
 | 0,_=>false
 | n+1,t=>match P.underlying t with
  | some .bool|some (.int _)|some .string=>P.cellsOf t == 1
  | some (.slice e)=>P.cellsOf t == 1 && decide (0<P.cellsOf e) && kW n e
  | some (.struct fs)=>B4 P 0 fs.toList (P.cellsOf t) && fs.toList.all fun f=>kW n f.type
  | _=>false
def kR.ok:Nat→TypeId→kR→Prop
 | 0,_,_=>False
 | n+1,t,d=>match P.underlying t,d with
  | some .bool,.b _=>True
  | some (.int k),.i k' m=>k'=k∧(Lit.int k m).wf=true
  | some .string,.s x=>x.size≤maxLen
  | some (.slice e),.sl h sz xs=>sz=P.cellsOf e∧h=.v false false∧xs.length≤maxLen∧∀x∈xs,kR.ok n e x
  | some (.struct fs),.st ds=>ds.length=fs.size∧∀(i:Nat) f d,fs[i]? = some f→ds[i]? = some d→kR.ok n f.type d
  | _,_=>False
end
section
variable {P:Program} {Γ:bG} {H:Type} {enc:TypeId×Value→H} {W:World}
def lD(W:World):j9 where
 m:=fun _ _=>none
 imm:=fun β c=>if β=true then none else match W.heap[c]? with|some (.cells arr _ _)=>some arr|_=>none
theorem TD(W:World):RH (lD W) [] [] [] W:=by
 refine⟨fun b g cs h=>by simp at h,fun i cs h=>by simp at h,rfl,fun i j c h=>by simp at h,fun b g cs _ _ _ _ _ _ _ _ h=>by simp at h,fun b g cs _ _ _ _ h=>by simp at h,?_,fun _ _ _ _ _ h=>by simp at h,fun _ _ _ _ _ _ _ _ _ h=>by simp at h,fun b g c o n h=>by simp[lD]at h⟩;intro β c arr h;simp only[lD]at h;split at h
 ·cases h
 ·split at h
  ·rename_i arr' T fr hh;injection h with h
   subst h;exact⟨T,fr,hh⟩
  ·cases h
theorem Fh{a:Addr}{v:Value}(h:W.cell? a=some v):a.spot=none∧∃arr,(lD W).imm false a.block=some arr∧arr[a.off]? = some v:=by
 unfold World.cell? at h;split at h
 ·rename_i c T fr hh;split at h
  ·cases h
  ·rename_i hs;refine⟨by cases hsp:a.spot<;>simp[hsp]at hs ⊢,c,?_,h⟩;simp[lD,hh]
 ·cases h
theorem Il(a:Addr)(n:Nat):(a.add n).off=a.off+n:=by unfold Addr.add;split<;>simp_all
theorem CT(a:Addr)(n:Nat):(a.add n).block=a.block:=by unfold Addr.add;split<;>simp_all
theorem wM{ρ ls}{x:AV}{v:Value}(h:RV ρ ls x v):kX ρ ls [x] [v]:=
 ⟨rfl,fun i y hy=>by
  cases i with
  | zero=>simp at hy;subst hy;exact h
  | succ i=>simp at hy⟩
theorem J0:∀(n:Nat) (t:TypeId) (fuel:Nat) (cs:List Value) (x:DataW H×List MemPlace),kW P n t=true→DataW.trod enc P W 0 (fun _=>true) true fuel t cs=some x→
 ∃d,kR.ok P n t d∧kX (lD W) [] d.cells cs∧cs.length=P.cellsOf t:=by
 intro n
 induction n with
 | zero=>intro t fuel cs x h;simp[kW]at h
 | succ n ih=>
  intro t fuel cs x hp h;simp only[kW]at hp;split at hp
  ·rename_i hu;obtain⟨b,rfl,_⟩:=DataW.trod_bool hu h;exact⟨.b b,by simp[kR.ok,hu],wM (.bool _ _),by simpa using(by simpa using hp:P.cellsOf t=1).symm⟩
  ·rename_i k hu;obtain⟨m,rfl,_,hw⟩:=DataW.trod_int hu h;exact⟨.i k m,by simp[kR.ok,hu,hw],wM (.int _ _ _),by simpa using(by simpa using hp:P.cellsOf t=1).symm⟩
  ·rename_i hu;obtain⟨b,rfl,_,hs⟩:=DataW.trod_string hu h;exact⟨.s b,by simp[kR.ok,hu,hs],wM (.str _ _),by simpa using(by simpa using hp:P.cellsOf t=1).symm⟩
  ·rename_i e hu;simp only[Aah,beq_iff_eq,decide_eq_true_eq]at hp;obtain⟨⟨hp1,hp2⟩,hp3⟩:=hp;rcases DataW.trod_slice hu h with⟨rfl,_⟩|⟨a,len,cap,elems,rest,m,_,rfl,_,_,hl,hm,hlen,hel,_,_⟩
   ·exact⟨.sl (.v false false) (P.cellsOf e) [],by simp[kR.ok,hu],wM (.vsn _ _ _ _),by simp[hp1]⟩
   ·have each:∀i,i<len→∃d cs',kR.ok P n e d∧W.cells? 0 (a.add (i*P.cellsOf e)) (P.cellsOf e)=some cs'∧kX (lD W) [] d.cells cs'∧cs'.length=P.cellsOf e:=by
     intro i hi;have:=hel i hi;rw[Aaa (by omega),Aaj]at this;obtain⟨cs',h1,h2⟩:=this;obtain⟨d,g1,g2,g3⟩:=ih e m cs' _ hp3 h2;exact⟨d,cs',g1,h1,g2,g3⟩
    let ds:List kR:=(List.range len).attach.map fun i=>(each i.1 (Aav.1 i.2)).choose
    have hds:ds.length=len:=by simp[ds]
    have cF:∀(i:Nat) (d:kR),ds[i]? = some d→i<len∧∃cs',kR.ok P n e d∧W.cells? 0 (a.add (i*P.cellsOf e)) (P.cellsOf e)=some cs'∧kX (lD W) [] d.cells cs'∧cs'.length=P.cellsOf e:=by
     intro i d hd;have hi:i<len:=by have:=aL hd;omega
     refine⟨hi,?_⟩;have:d=(each i hi).choose:=by
      simp only[ds,Aak,Aae]at hd;obtain⟨x,hx,rfl⟩:=hd;have hx':x.1=i:=by
       have:=congrArg (Option.map Subtype.val) hx;simp[hi]at this;exact this.symm
      obtain⟨y,hy⟩:=x;subst hx';rfl
     rw[this];exact(each i hi).choose_spec
    refine⟨.sl (.v false false) (P.cellsOf e) ds,?_,wM ?_,by simp[hp1]⟩
    ·simp only[kR.ok,hu];refine⟨trivial,trivial,by omega,fun d hd=>?_⟩;obtain⟨i,hi⟩:=Aal.1 hd;obtain⟨_,_,h1,_⟩:=cF i d hi;exact h1
    ·simp only[sl,kR.CP];rcases Nat.eq_zero_or_pos len with h0|hpos
     ·have:ds=[]:=List.length_eq_zero_iff.1 (by omega);rw[this,h0];exact .vs0 _ false _ false a cap (by simp)
     ·have look:∀(i:Nat) (l:List AV),(ds.map kR.cells)[i]? = some l→i<len∧l.length=P.cellsOf e∧∀(j:Nat) (x:AV),l[j]? = some x→∃v,W.cell? ((a.add (i*P.cellsOf e)).add j)=some v∧RV (lD W) [] x v:=by
       intro i l hl';rw[Aak,Aae]at hl';obtain⟨d,hd,rfl⟩:=hl';obtain⟨hi,cs',_,g2,g3,g4⟩:=cF i d hd;obtain⟨_,c2,c3⟩:=World.cells?_some g2;refine⟨hi,by rw[g3.1];exact g4,fun j x hx=>?_⟩;have hj:j<P.cellsOf e:=by have:=aL hx;have:=g3.1;omega
       have hr:=g3.2 j x hx;rw[Aac,Aaa (by omega)]at hr;have hjl:j<cs'.length:=by omega
       exact⟨cs'[j],by rw[c3 j hj,Aaa hjl],by simpa using hr⟩
      have hspot:a.spot=none:=by
       have hd0:ds[0]? = some ds[0]:=Aaa (by omega);obtain⟨_,cs',_,g2,_,g4⟩:=cF 0 _ hd0;obtain⟨_,c2,c3⟩:=World.cells?_some g2;have:=c3 0 hp2;rw[Aaa (by omega)]at this;have:=(Fh this).1;simpa[Addr.add]using this
      obtain⟨ab,ao,asp⟩:=a;simp only at hspot;subst hspot;have hcell:∀(i j:Nat) (v:Value),W.cell? ((Addr.add ⟨ab,ao,none⟩ (i*P.cellsOf e)).add j)=some v→∃arr,(lD W).imm false ab=some arr∧arr[ao+(i*P.cellsOf e+j)]? = some v:=by
       intro i j v hv;obtain⟨_,arr,h1,h2⟩:=Fh hv;rw[CT,CT]at h1;rw[Il,Il,Nat.add_assoc]at h2;exact⟨arr,h1,h2⟩
      have hv:∀i j,∃v,∀l x,(ds.map kR.cells)[i]? = some l→l[j]? = some x→W.cell? ((Addr.add ⟨ab,ao,none⟩ (i*P.cellsOf e)).add j)=some v∧RV (lD W) [] x v:=by
       intro i j;by_cases hx:∃l x,(ds.map kR.cells)[i]? = some l∧l[j]? = some x
       ·obtain⟨l,x,h1,h2⟩:=hx;obtain⟨_,_,h3⟩:=look i l h1;obtain⟨v,h4,h5⟩:=h3 j x h2;refine⟨v,fun l' x' e1 e2=>?_⟩;rw[h1]at e1;injection e1 with e1;subst e1
        rw[h2]at e2;injection e2 with e2;subst e2
        exact⟨h4,h5⟩
       ·exact⟨default,fun l x e1 e2=>absurd ⟨l,x,e1,e2⟩ hx⟩
      have:=RV.vs (ρ:=lD W) [] false (P.cellsOf e) false (ds.map kR.cells) ab ao cap (fun i j=>(hv i j).choose) (by simp[hds];omega) (by simp) (fun i l h=>(look i l h).2.1)
       (fun i l h1 j x h2=>by
        have:=((hv i j).choose_spec l x h1 h2).1;exact hcell i j _ this)
       (fun i l h1 j x h2=>((hv i j).choose_spec l x h1 h2).2)
      simpa[hds]using this
  ·rename_i fs hu;simp only[Aah]at hp;obtain⟨hc,ha⟩:=hp;obtain⟨xs,m,_,_,hl,hlen,hf⟩:=DataW.trod_struct hu h;have key:∀(l:List Field) (o k:Nat),B4 P o l (P.cellsOf t)=true→(∀f∈l,kW P n f.type=true)→(∀(i:Nat) (f:Field),l[i]? = some f→∃y,DataW.trod enc P W 0 (fun _=>true) true m f.type ((cs.drop f.offset).take (P.cellsOf f.type))=some y)→
    ∃ds:List kR,ds.length=l.length∧(∀(i:Nat) f d,l[i]? = some f→ds[i]? = some d→kR.ok P n f.type d)∧kX (lD W) [] (kR.A5 ds) (cs.drop o):=by
    intro l
    induction l with
    | nil=>
     intro o k h1 _ _;simp only[B4,beq_iff_eq]at h1;exact⟨[],rfl,fun i f d h=>by simp at h,by rw[List.drop_of_length_le (by omega)];exact⟨rfl,fun i x h=>by simp[kR.A5]at h⟩⟩
    | cons f l ihl=>
     intro o k h1 h2 h3;simp only[B4,Aah,beq_iff_eq]at h1;obtain⟨rfl,h1⟩:=h1;obtain⟨y,hy⟩:=h3 0 f rfl;obtain⟨d,d1,d2,d3⟩:=ih f.type m _ y (h2 f (by simp)) hy;obtain⟨ds,e1,e2,e3⟩:=ihl _ k h1 (fun g hg=>h2 g (by simp[hg])) (fun i g hg=>h3 (i+1) g (by simpa using hg));refine⟨d::ds,by simp[e1],fun i g d' hg hd=>?_,?_⟩
     ·cases i with
      | zero=>simp at hg hd;subst hg;subst hd;exact d1
      | succ i=>exact e2 i g d' (by simpa using hg) (by simpa using hd)
     ·have:cs.drop f.offset=(cs.drop f.offset).take (P.cellsOf f.type)++cs.drop (f.offset+P.cellsOf f.type):=by
       conv=>lhs;rw[←List.take_append_drop (P.cellsOf f.type) (cs.drop f.offset)]
       rw[List.drop_drop]
      rw[this];exact d2.append e3
   obtain⟨ds,e1,e2,e3⟩:=key fs.toList 0 0 hc (fun f hf'=>Aat.1 ha f hf') (fun i f hf'=>by
    have:=hf i f (by simpa using hf');have hi:i<xs.length:=by have:=aL hf';simp at this;omega
    exact⟨xs[i],by rw[this,Aaa hi]⟩)
   refine⟨.st ds,?_,by simpa[kR.cells]using e3,hl⟩;simp only[kR.ok,hu];exact⟨by simpa using e1,fun i f d h1 h2=>e2 i f d (by simpa using h1) h2⟩
  ·cases hp
theorem vu{α β:Type}{f g:α→Option β}:∀{l:List α} {r:List β},(∀x∈l,∀y∈r,f x=some y→g x=some y)→l.mapM f=some r→l.mapM g=some r
 | [],r,_,h=>by simpa using h
 | a::l,r,hi,h=>by
  rw[List.mapM_cons]at h ⊢;cases ha:f a with
  | none=>simp[ha]at h
  | some b=>
   cases hl:l.mapM f with
   | none=>simp[ha,hl]at h
   | some bs=>
    simp[ha,hl]at h;subst h;have h1:=hi a (by simp) b (by simp) ha;have h2:=vu (l:=l) (r:=bs) (g:=g) (fun x hx y hy=>hi x (by simp[hx]) y (by simp[hy])) hl;simp[h1,h2]
variable {W':World}
theorem KD(hk:∀c,c<W.heap.size→W'.heap[c]? = W.heap[c]?){a:Addr}{v:Value}(h:W.cell? a=some v):W'.cell? a=some v:=by
 unfold World.cell? at h ⊢;have:a.block<W.heap.size:=by
  rcases Aar a.block W.heap.size with h'|h'
  ·exact h'
  ·rw[Array.getElem?_eq_none h']at h;cases h
 rw[hk _ this];exact h
theorem JB(hk:∀c,c<W.heap.size→W'.heap[c]? = W.heap[c]?){a:Addr}{n:Nat}{cs:List Value}(h:W.cells? 0 a n=some cs):W'.cells? 0 a n=some cs:=by
 unfold World.cells? at h ⊢;simp only[Aax,if_true]at h ⊢;exact vu (fun x _ y _ e=>KD hk e) h
theorem Gy(hk:∀c,c<W.heap.size→W'.heap[c]? = W.heap[c]?):∀(n:Nat) (t:TypeId) (fuel:Nat) (cs:List Value) (x:DataW H×List MemPlace),kW P n t=true→DataW.trod enc P W 0 (fun _=>true) true fuel t cs=some x→
 ∀sp:Nat→Bool,(∀p∈x.2,sp p.block=true)→DataW.trod enc P W' 0 sp true fuel t cs=some x:=by
 intro n
 induction n with
 | zero=>intro t fuel cs x h;simp[kW]at h
 | succ n ih=>
  intro t fuel cs x hp h sp hsp;cases fuel with
  | zero=>simp[DataW.trod]at h
  | succ m=>
  simp only[kW]at hp;split at hp
  ·rename_i hu;obtain⟨b,rfl,rfl⟩:=DataW.trod_bool hu h;simp[DataW.trod,hu]
  ·rename_i k hu;obtain⟨z,rfl,rfl,hw⟩:=DataW.trod_int hu h;simp[DataW.trod,hu,hw]
  ·rename_i hu;obtain⟨b,rfl,rfl,hs⟩:=DataW.trod_string hu h;simp[DataW.trod,hu,hs]
  ·rename_i e hu;simp only[Aah,beq_iff_eq,decide_eq_true_eq]at hp;obtain⟨⟨hp1,hp2⟩,hp3⟩:=hp;rcases DataW.trod_slice hu h with⟨rfl,rfl⟩|⟨a,len,cap,_,_,_,_,rfl,_,_,hl,hm,_⟩
   ·simp[DataW.trod,hu]
   ·unfold DataW.trod at h ⊢;rw[hu]at h ⊢;simp only[Aax,hl,hm,and_self,if_true]at h ⊢;rw[Aaj]at h ⊢;obtain⟨elems,he,h⟩:=h;rw[Aae]at h;obtain⟨rest,hr,rfl⟩:=h;have sub:∀y∈elems++rest,∀p∈y.2,sp p.block=true:=fun y hy p hp=>hsp p (by
     refine List.mem_append_right _ (Aau.2 ⟨y,hy,hp⟩))
    have imp:∀(i:Nat) (y:DataW H×List MemPlace),y∈elems++rest→((W.cells? 0 (a.add (i*P.cellsOf e)) (P.cellsOf e)).bind (DataW.trod enc P W 0 (fun _=>true) true m e))=some y→
     ((W'.cells? 0 (a.add (i*P.cellsOf e)) (P.cellsOf e)).bind (DataW.trod enc P W' 0 sp true m e))=some y:=by
     intro i y hy h;rw[Aaj]at h ⊢;obtain⟨cs',h1,h2⟩:=h;exact⟨cs',JB hk h1,ih e m cs' y hp3 h2 sp (sub y hy)⟩
    refine⟨elems,vu (fun i _ y hy=>imp i y (by simp[hy])) he,?_⟩;rw[Aae];refine⟨rest,?_,rfl⟩;have hr':(List.range (cap-len)).mapM (fun j=>(W'.cells? 0 (a.add ((len+j)*P.cellsOf e)) (P.cellsOf e)).bind (DataW.trod enc P W' 0 sp true m e))=some rest:=
     vu (fun i _ y hy=>imp (len+i) y (by simp[hy])) hr
    cases hs:sp a.block with
    | true=>simpa using hr'
    | false=>
     have hz:rest=[]:=by
      cases rest with
      | nil=>rfl
      | cons y r=>
       have hpos:0<(elems.length+(y::r).length)*P.cellsOf e:=Nat.mul_pos (by simp only[Aap];omega) hp2;have:=hsp (.cell a.block (a.off+0)) (by
        simp only[Aaf];refine .inl ?_;simp only[MemPlace.row,List.mem_map,Aav];exact⟨0,hpos,rfl⟩)
       simp[MemPlace.block,hs]at this
     subst hz;simp
  ·rename_i fs hu;simp only[Aah]at hp;obtain⟨hc,ha⟩:=hp;obtain⟨xs0,m',hm',_,hl,_,_⟩:=DataW.trod_struct hu h;unfold DataW.trod at h ⊢;rw[hu]at h ⊢;simp only[hl,if_true]at h ⊢;rw[Aae]at h ⊢;obtain⟨xs,hx,rfl⟩:=h;refine⟨xs,vu (fun f hf y hy e=>ih f.type m _ y (Aat.1 ha f hf) e sp fun p hp=>hsp p ?_) hx,rfl⟩;simp only[Aau];exact⟨y,hy,hp⟩
  ·cases hp
def kR.av:kR→AV
 | .b x=>.bool x
 | .i k n=>.int k n
 | .s x=>.str x
 | .sl h sz xs=>AM.sl h sz (kR.xw xs)
 | .st fs=>.agg (kR.A5 fs)
theorem K1{n:Nat}{t:TypeId}{v:Value}{r:Reach}{base:Nat}{x:DataW H}{ps:List MemPlace}(hp:kW P n t=true)(hv:Value.okWide P W r base t v)(h:DataW.Trod enc P W 0 (fun _=>true) true t v x ps):
 ∃d,kR.ok P n t d∧RV (lD W) [] d.av v:=by
 obtain⟨fuel,h⟩:=h;obtain⟨d,h1,h2,h3⟩:=J0 n t fuel _ _ hp h;refine⟨d,h1,?_⟩;cases n with
 | zero=>simp[kW]at hp
 | succ n=>
 have one:∀(y:AV),d.cells=[y]→(∀cs,v≠.agg cs)→RV (lD W) [] y v:=by
  intro y hy hn;have hc:v.cells.toList=[v]:=by
   cases v<;>first|rfl|exact absurd rfl (hn _)
  rw[hy,hc]at h2;simpa using h2.2 0 y rfl
 unfold Value.okWide at hv;simp only[kR.ok]at h1;simp only[kW]at hp;split at hp
 ·rename_i hu;rw[hu]at h1 hv;cases d<;>simp at h1;exact one _ rfl (fun cs e=>by subst e;simp[Cell.okWide,Cell.ok,hu]at hv)
 ·rename_i k hu;rw[hu]at h1 hv;cases d<;>simp at h1;exact one _ rfl (fun cs e=>by subst e;simp[Cell.okWide,Cell.ok,hu]at hv)
 ·rename_i hu;rw[hu]at h1 hv;cases d<;>simp at h1;exact one _ rfl (fun cs e=>by subst e;simp[Cell.okWide,Cell.ok,hu]at hv)
 ·rename_i e hu;rw[hu]at h1 hv;cases d<;>simp at h1;exact one _ rfl (fun cs e=>by subst e;simp[Cell.okWide,Cell.ok,hu]at hv)
 ·rename_i fs hu;rw[hu]at h1 hv;cases d<;>simp at h1;obtain⟨cs,rfl,_⟩:=hv;simp only[kR.cells,Value.cells]at h2;exact .agg _ _ _ (by simpa using h2.1) (fun i x hx=>by have:=h2.2 i x hx;rwa[fF]at this)
 ·cases hp
def og(P:Program)(n:Nat):List TypeId→List kR→Prop
 | [],[]=>True
 | t::ts,d::ds=>kR.ok P n t d∧og P n ts ds
 | _,_=>False
theorem Dg{n:Nat}{r:Reach}{base:Nat}:∀{ts:List TypeId} {vs:List Value} {xs:List (DataW H)} {ps:List MemPlace},(∀t∈ts,kW P n t=true)→(∀(j:Nat) t v,ts[j]? = some t→vs[j]? = some v→Value.okWide P W r base t v)→
 DataW.TrodAll enc P W 0 (fun _=>true) true ts vs xs ps→∃ds,og P n ts ds∧kX (lD W) [] (ds.map kR.av) vs∧xs.length=ts.length∧
  ∀{W':World},(∀c,c<W.heap.size→W'.heap[c]? = W.heap[c]?)→∀sp:Nat→Bool,(∀p∈ps,sp p.block=true)→DataW.TrodAll enc P W' 0 sp true ts vs xs ps
 | [],vs,xs,ps,hp,hv,h=>by
  obtain⟨rfl,rfl,rfl⟩:=trodAll_nil h;exact⟨[],trivial,⟨rfl,fun i x hx=>by simp at hx⟩,rfl,fun _ _ _=>rfl⟩
 | t::ts,vs,xs,ps,hp,hv,h=>by
  obtain⟨v,vs',x,xs',p,q,rfl,rfl,rfl,h1,h2⟩:=trodAll_cons h;obtain⟨d,d1,d2⟩:=K1 (hp t (by simp)) (hv 0 t v rfl rfl) h1;obtain⟨ds,e1,e2,e3,e4⟩:=Dg (fun t ht=>hp t (by simp[ht])) (fun j t v a b=>hv (j+1) t v (by simpa using a) (by simpa using b)) h2;refine⟨d::ds,⟨d1,e1⟩,(wM d2).append e2,by simp[e3],fun hk sp hsp=>?_⟩;obtain⟨fuel,hf⟩:=h1;exact⟨p,q,⟨fuel,Gy hk n t fuel _ _ (hp t (by simp)) hf sp fun y hy=>hsp y (by simp[hy])⟩,e4 hk sp (fun y hy=>hsp y (by simp[hy])),rfl⟩
theorem Jh{n:Nat}{f:FuncId}{fn:Func}{s:ChangeSpec}{apart fresh handsOn again:Bool}{args:Array Value}{ds gs:List (DataW H)}{before:List MemPlace}{tb:TypeId}{base:Nat}
 (hp:∀t∈fn.params.toList,kW P n t=true) (hvars:s.vars=[]) (hres:fn.resultTypes=#[tb]) (htb:P.underlying tb=some .bool)
 (hspec:∀xs:List (DataW H),xs.length=fn.params.toList.length→s.fn H xs={ results:=[.lit (.bool true)],args:=xs })
 (t:∀dats:List kR,og P n fn.params.toList dats→T P Γ f (dats.map kR.av) [] fun v _=>v=.bool true)
 (hval:∀(j:Nat) t v,fn.params[j]? = some t→args[j]? = some v→Value.okWide P W .any base t v)
 (hW:DataW.Whole enc P fn.params.toList s.vars apart W args.toList ds gs before) (hΓ:TR Γ (lD W)):
 Calls P f args W fun e W'=>∃v,e=.returned v∧s.post enc P fn apart fresh handsOn again W args v W':=by
 have hW':=hW;obtain⟨p,q,hA,hV,rfl,hz,hn⟩:=hW;rw[hvars]at hV;obtain⟨rfl,rfl⟩:=trodVars_none hV;obtain⟨dats,o1,o2,o3,o4⟩:=Dg hp (fun j t v a b=>hval j t v (by simpa using a) (by simpa using b)) hA;have hlen:args.toList.toArray=args:=by simp
 have ht:=(t dats o1).2 (lD W) W args.toList (TD W) hΓ o2;rw[hlen]at ht;refine ht.mono ?_;rintro e W2 ⟨v,cv,ρ',h',rfl,rv,rh,ev,rfl⟩;cases rv;have hk:∀c,c<W.heap.size→W2.heap[c]? = W.heap[c]?:=fun c hc=>ev.fr c hc (by
  rintro(⟨i,h⟩|⟨b,g,cs,o,n,h,_⟩)
  ·simp at h
  ·simp at h)
 have kept:W.keptBut W2 fun _=>False:=by
  refine⟨ev.os,ev.out,fun i hi=>?_⟩;rw[hk i hi];split
  ·rename_i h1 h2;rw[h1]at h2;injection h2 with h2
   injection h2 with h2 h3 h4
   subst h2;subst h3;subst h4;exact⟨rfl,rfl,rfl,fun _ _=>rfl⟩
  ·rename_i h1 h2;rw[h1]at h2;injection h2 with h2
   injection h2 with h2 h3
   exact .inr ⟨h2.symm,h3.symm⟩
  ·rfl
 have hfz:∀a:Addr,a.block<W.heap.size→W2.frozen? a=W.frozen? a:=fun a ha=>by
  unfold World.frozen?;rw[hk _ ha]
 have hsp:=hspec (ds++[]) (by simpa using o3);refine⟨.bool true,rfl,?_⟩;have hold:∀x∈p++[],(fun b=>decide (b<W.heap.size)) x.block=true:=fun x hx=>by simpa using hW'.lt x hx
 have hp1:p++[]=p:=by simp
 have hr:∀(b:Nat) (sp:Nat→Bool) (hd:Bool),DataW.TrodAll enc P W2 b sp hd fn.resultTypes.toList ((Value.bool true).resultList fn.resultTypes.size) (s.fn H (ds++[])).results []:=by
  intro b sp hd;rw[hsp,hres];exact trodAll_mk1 (⟨1,by simp[DataW.trod,htb,Value.cells]⟩:DataW.Trod enc P W2 b sp hd tb (.bool true) (.lit (.bool true)) [])
 have ha:∀sp:Nat→Bool,(∀x∈p,sp x.block=true)→DataW.TrodAll enc P W2 0 sp true fn.params.toList args.toList (s.fn H (ds++[])).args p:=by
  intro sp h;rw[hsp];simp only[List.append_nil];exact o4 hk sp h
 have hv:∀sp:Nat→Bool,DataW.TrodVars enc P W2 sp s.vars (s.fn H (ds++[])).vars []:=by
  intro sp;rw[hsp,hvars];exact rfl
 refine⟨ds,[],p++[],[],p,[],hW',hr _ _ _,ha _ (fun x hx=>hold x (by simpa using hx)),hv _,World.keptBut_mono (fun x hx=>hx.elim) kept,fun _=>?_⟩;refine⟨?_,_,_,([]++p)++[],⟨[]++p,[],trodAll_append (ha _ (fun _ _=>rfl)) (hr _ _ _),hv _,rfl,?_,?_⟩,?_⟩
 ·intro j ty r h1 h2;rw[hres]at h1 h2;cases j with
  | zero=>
   simp at h1;subst h1;simp[Value.resultList]at h2;subst h2;simp[Value.okWide,htb,Cell.okWide,Cell.ok]
  | succ j=>simp at h1
 ·intro b off hb;have hb':MemPlace.cell b off∈p++[]:=by simpa using hb
  rw[hfz _ (by simpa[MemPlace.block]using hW'.lt _ hb')];exact hz b off hb'
 ·intro ha';have:=hn ha';simpa using this
 ·intro x hx _;simpa using hx
theorem Kg{n:Nat}{f:FuncId}{fn:Func}{s:ChangeSpec}{apart fresh handsOn again:Bool}{args:Array Value}{ds gs:List (DataW H)}{before:List MemPlace}{tb:TypeId}{base:Nat}
 (hp:∀t∈fn.params.toList,kW P n t=true) (hvars:s.vars=[]) (hres:fn.resultTypes=#[tb]) (htb:P.underlying tb=some .bool)
 (hspec:∀xs:List (DataW H),xs.length=fn.params.toList.length→s.fn H xs={ results:=[.lit (.bool true)],args:=xs })
 (t:∀dats:List kR,og P n fn.params.toList dats→T P (fun _=>none) f (dats.map kR.av) [] fun v _=>v=.bool true)
 (hval:∀(j:Nat) t v,fn.params[j]? = some t→args[j]? = some v→Value.okWide P W .any base t v)
 (hW:DataW.Whole enc P fn.params.toList s.vars apart W args.toList ds gs before):
 Calls P f args W fun e W'=>∃v,e=.returned v∧s.post enc P fn apart fresh handsOn again W args v W':=
 Jh hp hvars hres htb hspec t hval hW (fun g cs h=>by cases h)
theorem og.one{n:Nat}{t0:TypeId}{ds:List kR}(h:og P n [t0] ds):∃d0,ds=[d0]∧kR.ok P n t0 d0:=
 match ds,h with|[d0],h=>⟨d0,rfl,h.1⟩
theorem og.cons{n:Nat}{t0:TypeId}{ts:List TypeId}{ds:List kR}(h:og P n (t0::ts) ds):∃d0 ds',ds=d0::ds'∧kR.ok P n t0 d0∧og P n ts ds':=
 match ds,h with|d0::ds',h=>⟨d0,ds',rfl,h.1,h.2⟩
theorem og.nil{n:Nat}{ds:List kR}(h:og P n [] ds):ds=[]:=match ds,h with|[],_=>rfl
theorem M6{n:Nat}{t:TypeId}{k:IntKind}(h1:P.underlying t=some (.int k)){d:kR}(h:kR.ok P (n+1) t d):∃m:Int,d=.i k m∧(Lit.int k m).wf=true:=by
 simp only[kR.ok,h1]at h;cases d<;>simp only at h;obtain⟨rfl,h⟩:=h;exact⟨_,rfl,h⟩
theorem Tp{n:Nat}{t e:TypeId}(h1:P.underlying t=some (.slice e)){d:kR}(h:kR.ok P (n+1) t d):∃xs,d=.sl (.v false false) (P.cellsOf e) xs∧xs.length≤maxLen∧∀x∈xs,kR.ok P n e x:=by
 simp only[kR.ok,h1]at h;cases d<;>simp only at h;obtain⟨rfl,rfl,h⟩:=h;exact⟨_,rfl,h⟩
theorem Dw{α:Type}{n:Nat}{e:TypeId}(cells:α→List AV)(Q:α→Prop)(each:∀d:kR,kR.ok P n e d→∃a:α,d.cells=cells a∧Q a):∀{l:List kR},(∀x∈l,kR.ok P n e x)→∃zs:List α,l.length=zs.length∧kR.xw l=zs.map cells∧∀z∈zs,Q z
 | [],_=>⟨[],rfl,rfl,by simp⟩
 | x::l,h=>by
  obtain⟨zs,e1,e2,e3⟩:=Dw cells Q each (l:=l) (fun y hy=>h y (by simp[hy]));obtain⟨a,ha,hq⟩:=each x (h x (by simp));exact⟨a::zs,by simp[e1],by simp[kR.xw,ha,e2],by intro z hz;rcases Aam.1 hz with rfl|hz;exact hq;exact e3 z hz⟩
end
end Go.AM
namespace Go.AM
end Go.AM
namespace Go.AM
section
variable {P:Program} {Θ:ub} {Γ:bG}
theorem Q4(z:List AV):sub z 0 0=some []:=by simp[sub]
theorem Qt(a:AV)(z:List AV)(n:Nat):sub (a::z) 0 (n+1)=(sub z 0 n).map (a :: ·):=by
 simp only[sub,Aao,Aap,List.drop_zero];by_cases h:n≤z.length
 ·rw[if_pos (by omega),if_pos h];rfl
 ·rw[if_neg (by omega),if_neg h];rfl
theorem PI(a:AV)(z:List AV)(o n:Nat):sub (a::z) (o+1) n=sub z o n:=by
 simp only[sub,Aap,List.drop_succ_cons];by_cases h:o+n≤z.length
 ·rw[if_pos (by omega),if_pos h]
 ·rw[if_neg (by omega),if_neg h]
def uh:List AV→Nat→List AV→Option (List AV)
 | z,0,[]=>some z
 | _::z,0,x::vs=>if cn x=true then (uh z 0 vs).map (x :: ·)else none
 | a::z,n+1,vs=>(uh z n vs).map (a :: ·)
 | [],0,_::_=>none
 | [],_+1,_=>none
theorem BV:∀(z:List AV) (o:Nat) (vs z':List AV),uh z o vs=some z'→o+vs.length≤z.length∧vs.all cn=true∧z'=c8 z o vs
 | z,0,[],z',h=>by simp[uh]at h;subst h;simp[c8]
 | a::z,0,x::vs,z',h=>by
  simp only[uh]at h;split at h
  ·rename_i hx;rw[Aae]at h;obtain⟨y,h1,rfl⟩:=h;obtain⟨h2,h3,rfl⟩:=BV z 0 vs y h1;refine⟨by simp at h2 ⊢;omega,by simp[hx,h3],?_⟩;simp[c8]
  ·cases h
 | a::z,n+1,vs,z',h=>by
  simp only[uh,Aae]at h;obtain⟨y,h1,rfl⟩:=h;obtain⟨h2,h3,rfl⟩:=BV z n vs y h1;refine⟨by simp;omega,h3,?_⟩;simp[c8,show n+1+vs.length=(n+vs.length)+1 by omega]
 | [],0,_::_,_,h=>by simp[uh]at h
 | [],_+1,_,_,h=>by simp[uh]at h
theorem Si(z:List AV):uh z 0 []=some z:=by cases z<;>rfl
theorem QY(a x:AV)(z vs:List AV):uh (a::z) 0 (x::vs)=if cn x=true then (uh z 0 vs).map (x :: ·)else none:=rfl
theorem Re(a:AV)(z vs:List AV)(n:Nat):uh (a::z) (n+1) vs=(uh z n vs).map (a :: ·):=rfl
theorem eF{e:List AV}{L zs:List (List AV)}{h:AH}{i off:Nat}{z vs z':List AV}(hi:zs[i]? = some z)(hs:uh z off vs=some z'):(St.mk e (L++zs) h).store (.lp (L.length+i) off) vs=some ⟨e,L++zs.set i z',h⟩:=by
 obtain⟨h1,h2,rfl⟩:=BV z off vs z' hs;have hl:(L++zs)[L.length+i]? = some z:=by rw[Aab (by omega)];simpa using hi
 simp only[St.store,hl,Aaq,if_pos h1,h2,if_true];rw[List.set_append_right _ _ (by omega)];simp
theorem dZ{e:List AV}{L zs:List (List AV)}{h:AH}{i off n:Nat}{z:List AV}(hi:zs[i]? = some z):(St.mk e (L++zs) h).cells (.lp (L.length+i) off) n=sub z off n:=by
 have hl:(L++zs)[L.length+i]? = some z:=by rw[Aab (by omega)];simpa using hi
 simp only[St.cells,hl,Aaq]
theorem lc0(e:List AV)(L zs:List (List AV))(z:List AV)(h:AH)(off n:Nat):(St.mk e (L++z::zs) h).cells (.lp L.length off) n=sub z off n:=dZ (i:=0) rfl
theorem lc1(e:List AV)(L zs:List (List AV))(a z:List AV)(h:AH)(off n:Nat):(St.mk e (L++a::z::zs) h).cells (.lp (L.length+1) off) n=sub z off n:=dZ (i:=1) rfl
theorem lc2(e:List AV)(L zs:List (List AV))(a b z:List AV)(h:AH)(off n:Nat):(St.mk e (L++a::b::z::zs) h).cells (.lp (L.length+2) off) n=sub z off n:=dZ (i:=2) rfl
theorem lc3(e:List AV)(L zs:List (List AV))(a b c z:List AV)(h:AH)(off n:Nat):(St.mk e (L++a::b::c::z::zs) h).cells (.lp (L.length+3) off) n=sub z off n:=dZ (i:=3) rfl
def qp(f:List AV→St)(alt:Option St):Option (List AV)→Option St|some z=>some (f z)|none=>alt
def lK(s:St)(a:AV)(vs:List AV):Option St:=s.store a vs
theorem KS(f:List AV→St)(alt:Option St)(z:List AV):qp f alt (some z)=some (f z):=rfl
theorem iv{s:St}{a:AV}{vs:List AV}{o:Option (List AV)}{f:List AV→St}(h:∀z,o=some z→s.store a vs=some (f z)):s.store a vs=qp f (lK s a vs) o:=by
 cases o with
 | none=>rfl
 | some z=>exact h z rfl
theorem sc0(e:List AV)(L zs:List (List AV))(z:List AV)(h:AH)(off:Nat)(vs:List AV):(St.mk e (L++z::zs) h).store (.lp L.length off) vs=qp (fun z'=>⟨e,L++z'::zs,h⟩) (lK ⟨e,L++z::zs,h⟩ (.lp L.length off) vs) (uh z off vs):=
 iv fun _ hs=>eF (i:=0) rfl hs
theorem sc1(e:List AV)(L zs:List (List AV))(a z:List AV)(h:AH)(off:Nat)(vs:List AV):(St.mk e (L++a::z::zs) h).store (.lp (L.length+1) off) vs=qp (fun z'=>⟨e,L++a::z'::zs,h⟩) (lK ⟨e,L++a::z::zs,h⟩ (.lp (L.length+1) off) vs) (uh z off vs):=
 iv fun _ hs=>eF (i:=1) rfl hs
theorem sc2(e:List AV)(L zs:List (List AV))(a b z:List AV)(h:AH)(off:Nat)(vs:List AV):(St.mk e (L++a::b::z::zs) h).store (.lp (L.length+2) off) vs=qp (fun z'=>⟨e,L++a::b::z'::zs,h⟩) (lK ⟨e,L++a::b::z::zs,h⟩ (.lp (L.length+2) off) vs) (uh z off vs):=
 iv fun _ hs=>eF (i:=2) rfl hs
theorem sc3(e:List AV)(L zs:List (List AV))(a b c z:List AV)(h:AH)(off:Nat)(vs:List AV):(St.mk e (L++a::b::c::z::zs) h).store (.lp (L.length+3) off) vs=qp (fun z'=>⟨e,L++a::b::c::z'::zs,h⟩) (lK ⟨e,L++a::b::c::z::zs,h⟩ (.lp (L.length+3) off) vs) (uh z off vs):=
 iv fun _ hs=>eF (i:=3) rfl hs
theorem ll1(L:List (List AV))(a:List AV):(L++[a]).length=L.length+1:=by simp
theorem ll2(L:List (List AV))(a b:List AV):(L++[a,b]).length=L.length+2:=by simp
theorem ll3(L:List (List AV))(a b c:List AV):(L++[a,b,c]).length=L.length+3:=by simp
theorem la1(L:List (List AV))(a z:List AV):(L++[a])++[z]=L++[a,z]:=by simp
theorem la2(L:List (List AV))(a b z:List AV):(L++[a,b])++[z]=L++[a,b,z]:=by simp
theorem la3(L:List (List AV))(a b c z:List AV):(L++[a,b,c])++[z]=L++[a,b,c,z]:=by simp
theorem MS(k:IntKind)(n:Int):cn (.int k n)=true:=rfl
theorem Uy(b:Bool):cn (.bool b)=true:=rfl
theorem Xb(b:ByteArray):cn (.str b)=true:=rfl
theorem RX(s:SH)(sz:Nat)(xs:List (List AV)):cn (sl s sz xs)=true:=by cases s<;>rfl
theorem PD(b g off len cap sz:Nat)(ex:Bool):cn (.gs b g off len cap sz ex)=true:=rfl
theorem sK{α β:Type}(f:α→β)(x:α):Option.map f (some x)=some (f x):=rfl
theorem Up{α β:Type}(f:α→Option β)(x:α):Option.bind (some x) f=f x:=rfl
theorem X8(s:St)(n:Nat)(a:AV)(cs:List AV):va s n a (some cs)=if cs.length=n then .G5 (s.store a cs)else .stuck:=rfl
theorem Wc:List.length ([]:List AV)=0:=rfl
theorem Uo(x:AV)(xs:List AV):(x::xs).length=xs.length+1:=rfl
theorem dr_0(l:List AV):l.drop 0=l:=rfl
theorem dr_s(a:AV)(l:List AV)(n:Nat):(a::l).drop (n+1)=l.drop n:=rfl
theorem V3(n:Nat):0+n=n:=Aao n
def qM(v:AV):Option Nat:=(JC v).bind fun i=>if 0≤i then some i.toNat else none
def Cd(k:SK)(s:St)(v hi:AV):AR:=match qM hi with|some h=>.nD s (pO k v 0 (some h) none)|none=>.stuck
def ud(k:SK)(s:St)(v lo:AV):AR:=match qM lo with|some l=>.nD s (pO k v l none none)|none=>.stuck
def AN(k:SK)(s:St)(v lo hi:AV):AR:=match qM lo,qM hi with|some l,some h=>.nD s (pO k v l (some h) none)|_,_=>.stuck
theorem yk(gl:Bool)(s:St)(k:SK)(x y:X):step Γ gl s (.slice k x none (some y) none)=Cd k s (s.eval Γ x) (s.eval Γ y):=by
 simp only[step,Cd,AG,qM];cases(JC (s.eval Γ y)).bind fun i=>if 0≤i then some i.toNat else none<;>rfl
theorem tC(gl:Bool)(s:St)(k:SK)(x y:X):step Γ gl s (.slice k x (some y) none none)=ud k s (s.eval Γ x) (s.eval Γ y):=by
 simp only[step,ud,AG,qM];cases(JC (s.eval Γ y)).bind fun i=>if 0≤i then some i.toNat else none<;>rfl
theorem C1(gl:Bool)(s:St)(k:SK)(x y z:X):step Γ gl s (.slice k x (some y) (some z) none)=AN k s (s.eval Γ x) (s.eval Γ y) (s.eval Γ z):=by
 simp only[step,AN,AG,qM];cases(JC (s.eval Γ y)).bind fun i=>if 0≤i then some i.toNat else none<;>cases(JC (s.eval Γ z)).bind fun i=>if 0≤i then some i.toNat else none<;>rfl
def SH.cut(s:SH)(b:Bool):SH:=match s with|.nil=>.nil|.v β ex=>.v β (ex && b)
theorem b8{e:List AV}{l:List (List AV)}{H:AH}{b off n g:Nat}{cs:List AV}(h:cF H b=some (g,cs)):(St.mk e l H).cells (.gp b g off) n=sub cs off n:=by
 simp only[St.cells,h,Aaq,if_true]
end
theorem EB:type_of% (And.intro @Q4 (And.intro @Qt (And.intro @PI (And.intro @Si (And.intro @QY (And.intro @Re (And.intro @lc0 (And.intro @lc1 (And.intro @lc2 (And.intro @lc3 (And.intro @sc0 (And.intro @sc1 (And.intro @sc2 (And.intro @sc3 (And.intro @KS (And.intro @ll1 (And.intro @ll2 (And.intro @ll3 (And.intro @la1 (And.intro @la2 (And.intro @la3 (And.intro @MS (And.intro @Uy (And.intro @Xb (And.intro @RX (And.intro @PD (And.intro @sK (And.intro @yk (And.intro @tC (And.intro @C1 (And.intro @dr_0 (And.intro @dr_s (And.intro @Up (And.intro @X8 (And.intro @Wc (And.intro @Uo (@V3))))))))))))))))))))))))))))))))))))):=And.intro @Q4 (And.intro @Qt (And.intro @PI (And.intro @Si (And.intro @QY (And.intro @Re (And.intro @lc0 (And.intro @lc1 (And.intro @lc2 (And.intro @lc3 (And.intro @sc0 (And.intro @sc1 (And.intro @sc2 (And.intro @sc3 (And.intro @KS (And.intro @ll1 (And.intro @ll2 (And.intro @ll3 (And.intro @la1 (And.intro @la2 (And.intro @la3 (And.intro @MS (And.intro @Uy (And.intro @Xb (And.intro @RX (And.intro @PD (And.intro @sK (And.intro @yk (And.intro @tC (And.intro @C1 (And.intro @dr_0 (And.intro @dr_s (And.intro @Up (And.intro @X8 (And.intro @Wc (And.intro @Uo (@V3))))))))))))))))))))))))))))))))))))
end Go.AM
namespace Go.AM
section
variable {P:Program} {Θ:ub} {Γ:bG}
abbrev Tw(P:Program)(Θ:ub)(Γ:bG)(f:FuncId)(c:C)(rs:List RS)(us:List AV):Prop:=
 ∀{a0:AV} {h:AH} {K:AV→AH→Prop},TC P Θ Γ c (aV rs K) ⟨a0::us,[],h⟩→T P Γ f [a0] h K
end
end Go.AM
namespace Go.AM
inductive CD where
 | i (k:IntKind) (n:Int)|b (x:Bool)|s (x:ByteArray)|sl (sz:Nat) (xs:List (List CD))
 deriving Inhabited
mutual
def CD.av(β:Bool):CD→AV
 | .i k n=>.int k n
 | .b x=>.bool x
 | .s x=>.str x
 | .sl sz xs=>.vs β sz false (CD.GH β xs)
def CD.Ub(β:Bool):List CD→List AV
 | []=>[]
 | d::r=>d.av β::CD.Ub β r
def CD.GH(β:Bool):List (List CD)→List (List AV)
 | []=>[]
 | d::r=>CD.Ub β d::CD.GH β r
end
theorem CD.KU(β:Bool):∀(l:List CD),CD.Ub β l=l.map (CD.av β)
 | []=>rfl
 | d::r=>by simp[CD.Ub,CD.KU β r]
theorem CD.IQ(β:Bool):∀(l:List (List CD)),CD.GH β l=l.map fun x=>x.map (CD.av β)
 | []=>rfl
 | d::r=>by simp[CD.GH,CD.KU,CD.IQ β r]
theorem CD.mY(β:Bool)(k:IntKind)(n:Int):(CD.i k n).av β=.int k n:=by simp[CD.av]
theorem CD.uC(β x:Bool):(CD.b x).av β=.bool x:=by simp[CD.av]
theorem CD.uD(β:Bool)(x:ByteArray):(CD.s x).av β=.str x:=by simp[CD.av]
theorem CD.pV(β:Bool)(sz:Nat)(xs:List (List CD)):(CD.sl sz xs).av β=.vs β sz false (xs.map fun x=>x.map (CD.av β)):=by simp[CD.av,CD.IQ]
theorem CD.bM(β:Bool)(d:CD):Go.AM.bM (d.av β)=true:=by cases d<;>simp[CD.av,Go.AM.bM]
theorem CD.cn(β:Bool)(d:CD):Go.AM.cn (d.av β)=true:=pa (d.bM β)
inductive atom:AV→Prop
 | i (k:IntKind) (n:Int):atom (.int k n)
 | b (x:Bool):atom (.bool x)
 | s (x:ByteArray):atom (.str x)
 | ns:atom .nils
 | np:atom .nilp
inductive b9 (h:AH):AV→CD→List Nat→Prop
 | i (k:IntKind) (n:Int):b9 h (.int k n) (.i k n) []
 | b (x:Bool):b9 h (.bool x) (.b x) []
 | s (x:ByteArray):b9 h (.str x) (.s x) []
 | nil (sz:Nat):b9 h .nils (.sl sz []) []
 | gs (b g len cap sz:Nat) (ex:Bool) (zas tail:List AV) (xs:List (List CD)) (fps:List (List Nat))
  (h1:cF h b=some (g,zas++tail)) (h2:xs.length=len) (h3:∀l∈xs,l.length=sz) (h4:zas.length=xs.flatten.length) (ht:∀x∈tail,atom x) (hc:len≤cap∧(cap-len)*sz≤tail.length)
  (hf:fps.length=zas.length) (r:∀(i:Nat) (a:AV) (d:CD) (fp:List Nat),zas[i]? = some a→xs.flatten[i]? = some d→fps[i]? = some fp→b9 h a d fp):
  b9 h (.gs b g 0 len cap sz ex) (.sl sz xs) (b::fps.flatten)
def aM(h:AH):List AV→List CD→List Nat→Prop
 | [],[],fp=>fp=[]
 | a::zas,d::ds,fp=>∃f1 f2,fp=f1++f2∧b9 h a d f1∧aM h zas ds f2
 | _,_,_=>False
theorem aM.len{h:AH}:∀{zas:List AV} {ds:List CD} {fp:List Nat},aM h zas ds fp→zas.length=ds.length
 | [],[],_,_=>rfl
 | a::zas,d::ds,fp,hh=>by obtain⟨_,_,_,_,h2⟩:=hh;simp[aM.len h2]
 | [],_::_,_,hh=>hh.elim
 | _::_,[],_,hh=>hh.elim
theorem aM.of{h:AH}:∀{zas:List AV} {ds:List CD} {fps:List (List Nat)},zas.length=ds.length→fps.length=zas.length→
 (∀(i:Nat) (a:AV) (d:CD) (fp:List Nat),zas[i]? = some a→ds[i]? = some d→fps[i]? = some fp→b9 h a d fp)→aM h zas ds fps.flatten
 | [],[],[],_,_,_=>rfl
 | a::zas,d::ds,f::fps,h1,h2,r=>⟨f,fps.flatten,rfl,r 0 a d f rfl rfl rfl,aM.of (by simpa using h1) (by simpa using h2) (fun i a d fp e1 e2 e3=>r (i+1) a d fp (by simpa using e1) (by simpa using e2) (by simpa using e3))⟩
theorem aM.to{h:AH}:∀{zas:List AV} {ds:List CD} {fp:List Nat},aM h zas ds fp→∃fps:List (List Nat),fps.length=zas.length∧fp=fps.flatten∧
 ∀(i:Nat) (a:AV) (d:CD) (fp:List Nat),zas[i]? = some a→ds[i]? = some d→fps[i]? = some fp→b9 h a d fp
 | [],[],fp,hh=>⟨[],rfl,hh,fun i a d fp e1=>by simp at e1⟩
 | a::zas,d::ds,fp,hh=>by
  obtain⟨f1,f2,rfl,h1,h2⟩:=hh;obtain⟨fps,e1,rfl,e3⟩:=aM.to h2;refine⟨f1::fps,by simp[e1],rfl,fun i a' d' fp' g1 g2 g3=>?_⟩;cases i with
  | zero=>simp at g1 g2 g3;subst g1 g2 g3;exact h1
  | succ i=>exact e3 i a' d' fp' (by simpa using g1) (by simpa using g2) (by simpa using g3)
theorem b9.sl_mk{h:AH}{b g cap sz:Nat}{ex:Bool}{zas tail:List AV}{xs:List (List CD)}{fp:List Nat}(h1:cF h b=some (g,zas++tail))(h3:∀l∈xs,l.length=sz)(ht:∀x∈tail,atom x)(hc:xs.length≤cap∧(cap-xs.length)*sz≤tail.length)
 (r:aM h zas xs.flatten fp):b9 h (.gs b g 0 xs.length cap sz ex) (.sl sz xs) (b::fp):=by
 obtain⟨fps,e1,rfl,e3⟩:=r.to;exact .gs b g _ cap sz ex zas tail xs fps h1 rfl h3 r.len ht hc e1 e3
theorem b9.qZ{h:AH}{a:AV}{sz:Nat}{xs:List (List CD)}{fp:List Nat}(o:b9 h a (.sl sz xs) fp):(a=.nils∧xs=[]∧fp=[])∨
 ∃b g cap ex zas tail fp',a=.gs b g 0 xs.length cap sz ex∧fp=b::fp'∧cF h b=some (g,zas++tail)∧(∀l∈xs,l.length=sz)∧(∀x∈tail,atom x)∧(xs.length≤cap∧(cap-xs.length)*sz≤tail.length)∧aM h zas xs.flatten fp':=by
 cases o with
 | nil=>exact .inl ⟨rfl,rfl,rfl⟩
 | gs b g len cap sz ex zas tail xs fps h1 h2 h3 h4 ht hc hf r=>
  subst h2;exact .inr ⟨b,g,cap,ex,zas,tail,_,rfl,rfl,h1,h3,ht,hc,aM.of h4 hf r⟩
theorem j6{h:AH}{a:AV}{k:IntKind}{n:Int}{fp:List Nat}:b9 h a (.i k n) fp↔a=.int k n∧fp=[]:=
 ⟨fun o=>by cases o;exact⟨rfl,rfl⟩,fun⟨h1,h2⟩=>by subst h1 h2;exact .i _ _⟩
theorem oF{h:AH}{a:AV}{x:Bool}{fp:List Nat}:b9 h a (.b x) fp↔a=.bool x∧fp=[]:=
 ⟨fun o=>by cases o;exact⟨rfl,rfl⟩,fun⟨h1,h2⟩=>by subst h1 h2;exact .b _⟩
theorem nF{h:AH}{a:AV}{x:ByteArray}{fp:List Nat}:b9 h a (.s x) fp↔a=.str x∧fp=[]:=
 ⟨fun o=>by cases o;exact⟨rfl,rfl⟩,fun⟨h1,h2⟩=>by subst h1 h2;exact .s _⟩
theorem jy{h:AH}{zas:List AV}{fp:List Nat}:aM h zas [] fp↔zas=[]∧fp=[]:=by
 cases zas<;>simp[aM]
theorem jv{h:AH}{zas:List AV}{d:CD}{ds:List CD}{fp:List Nat}:aM h zas (d::ds) fp↔∃a as' f1 f2,zas=a::as'∧fp=f1++f2∧b9 h a d f1∧aM h as' ds f2:=by
 cases zas with
 | nil=>simp[aM]
 | cons a zas=>
  constructor
  ·rintro⟨f1,f2,h1,h2,h3⟩;exact⟨a,zas,f1,f2,rfl,h1,h2,h3⟩
  ·rintro⟨a',as',f1,f2,h1,h2,h3,h4⟩;injection h1 with e1 e2;subst e1 e2;exact⟨f1,f2,h2,h3,h4⟩
theorem aM.append{h:AH}:∀{zas bs:List AV} {ds es:List CD} {f1 f2:List Nat},aM h zas ds f1→aM h bs es f2→aM h (zas++bs) (ds++es) (f1++f2)
 | [],bs,[],es,f1,f2,h1,h2=>by cases h1;exact h2
 | a::zas,bs,d::ds,es,f1,f2,⟨g1,g2,e,o1,o2⟩,h2=>by subst e;exact⟨g1,g2++f2,by simp,o1,aM.append o2 h2⟩
theorem aM.split{h:AH}:∀{zas:List AV} {ds es:List CD} {fp:List Nat},aM h zas (ds++es) fp→∃a1 a2 f1 f2,zas=a1++a2∧fp=f1++f2∧aM h a1 ds f1∧aM h a2 es f2
 | zas,[],es,fp,o=>⟨[],zas,[],fp,rfl,rfl,rfl,o⟩
 | a::zas,d::ds,es,fp,⟨g1,g2,e,o1,o2⟩=>by
  subst e;obtain⟨a1,a2,f1,f2,e1,e2,o3,o4⟩:=aM.split o2;subst e1 e2;exact⟨a::a1,a2,g1++f1,f2,rfl,by simp,⟨g1,f1,rfl,o1,o3⟩,o4⟩
 | [],d::ds,es,fp,o=>o.elim
theorem bc{h h':AH}{b:Nat}(e:h'[b]? = h[b]?):cF h' b=cF h b:=by simp[cF,e]
theorem b9.frame{h h':AH}{a:AV}{d:CD}{fp:List Nat}(o:b9 h a d fp):(∀b∈fp,h'[b]? = h[b]?)→b9 h' a d fp:=by
 induction o with
 | i=>exact fun _=>.i _ _
 | b=>exact fun _=>.b _
 | s=>exact fun _=>.s _
 | nil=>exact fun _=>.nil _
 | gs b g len cap sz ex zas tail xs fps h1 h2 h3 h4 ht hc hf r ih=>
  intro hh;refine .gs b g len cap sz ex zas tail xs fps (by rw[bc (hh b (by simp))];exact h1) h2 h3 h4 ht hc hf (fun i a d fp e1 e2 e3=>ih i a d fp e1 e2 e3 fun c hc=>hh c ?_);exact Aan _ (Aai.2 ⟨fp,Aag e3,hc⟩)
theorem aM.frame{h h':AH}:∀{zas:List AV} {ds:List CD} {fp:List Nat},aM h zas ds fp→(∀b∈fp,h'[b]? = h[b]?)→aM h' zas ds fp
 | [],[],_,o,_=>o
 | a::zas,d::ds,fp,⟨f1,f2,e,o1,o2⟩,hh=>by
  subst e;exact⟨f1,f2,rfl,o1.frame fun b hb=>hh b (by simp[hb]),aM.frame o2 fun b hb=>hh b (by simp[hb])⟩
theorem b9.lt{h:AH}{a:AV}{d:CD}{fp:List Nat}(o:b9 h a d fp):∀b∈fp,b<h.length:=by
 induction o with
 | gs b g len cap sz ex zas tail xs fps h1 h2 h3 h4 ht hc hf r ih=>
  intro c hc;rcases Aam.1 hc with rfl|hc
  ·exact aL (fC h1)
  ·obtain⟨fp,hfp,hc⟩:=Aai.1 hc;obtain⟨i,hi⟩:=Aal.1 hfp;have hlt:=aL hi;exact ih i _ _ fp (Aaa (by omega)) (Aaa (by omega)) hi c hc
 | _=>intro b hb;simp at hb
theorem aM.lt{h:AH}:∀{zas:List AV} {ds:List CD} {fp:List Nat},aM h zas ds fp→∀b∈fp,b<h.length
 | [],[],_,o=>by cases o;intro b hb;simp at hb
 | a::zas,d::ds,fp,⟨f1,f2,e,o1,o2⟩=>by
  subst e;intro b hb;rcases Aaf.1 hb with hb|hb
  ·exact o1.lt b hb
  ·exact aM.lt o2 b hb
theorem b9.grow{h new:AH}{a:AV}{d:CD}{fp:List Nat}(o:b9 h a d fp):b9 (h++new) a d fp:=
 o.frame fun b hb=>Aad (o.lt b hb)
theorem aM.grow{h new:AH}{zas:List AV}{ds:List CD}{fp:List Nat}(o:aM h zas ds fp):aM (h++new) zas ds fp:=
 o.frame fun b hb=>Aad (o.lt b hb)
theorem b9.bM{h:AH}{a:AV}{d:CD}{fp:List Nat}(o:b9 h a d fp):Go.AM.bM a=true:=by cases o<;>rfl
theorem aM.bM{h:AH}:∀{zas:List AV} {ds:List CD} {fp:List Nat},aM h zas ds fp→zas.all Go.AM.bM=true
 | [],[],_,_=>rfl
 | a::zas,d::ds,fp,⟨f1,f2,e,o1,o2⟩=>by simp[o1.bM,aM.bM o2]
theorem b9.nb{h:AH}{base:Nat}{a:AV}{d:CD}{fp:List Nat}(o:b9 h a d fp)(hb:∀b∈fp,base≤b):NB base a:=by
 cases o with
 | i=>exact .int _ _
 | b=>exact .bool _
 | s=>exact .str _
 | nil=>exact .nils
 | gs=>exact .gs _ _ _ _ _ _ _ (hb _ (by simp))
theorem atom.nb{a:AV}(h:atom a)(base:Nat):NB base a:=by cases h<;>constructor
theorem aM.nb{h:AH}{base:Nat}:∀{zas:List AV} {ds:List CD} {fp:List Nat},aM h zas ds fp→(∀b∈fp,base≤b)→∀x∈zas,NB base x
 | [],[],_,_,_=>fun x hx=>by simp at hx
 | a::zas,d::ds,fp,⟨f1,f2,e,o1,o2⟩,hb=>by
  subst e;intro x hx;rcases Aam.1 hx with rfl|hx
  ·exact o1.nb fun b h=>hb b (by simp[h])
  ·exact aM.nb o2 (fun b h=>hb b (by simp[h])) x hx
theorem b9.Kq{h:AH}{base:Nat}{a:AV}{d:CD}{fp:List Nat}(o:b9 h a d fp):(∀b∈fp,base≤b)→∀b∈fp,∀g cs,h[b]? = some (some (g,cs))→∀x∈cs,NB base x:=by
 induction o with
 | gs b g len cap sz ex zas tail xs fps h1 h2 h3 h4 ht hc hf r ih=>
  intro hb c hc g' cs hcs x hx;rcases Aam.1 hc with rfl|hc
  ·have:=fC h1;rw[this]at hcs;injection hcs with hcs
   injection hcs with hcs
   injection hcs with e1 e2
   subst e1 e2;rcases Aaf.1 hx with hx|hx
   ·exact(aM.of h4 hf r).nb (fun b h=>hb b (by simp[h])) x hx
   ·exact(ht x hx).nb base
  ·obtain⟨fp,hfp,hc⟩:=Aai.1 hc;obtain⟨i,hi⟩:=Aal.1 hfp;have hlt:=aL hi;exact ih i _ _ fp (Aaa (by omega)) (Aaa (by omega)) hi (fun b h=>hb b (Aan _ (Aai.2 ⟨fp,hfp,h⟩))) c hc g' cs hcs x hx
 | _=>intro _ b hb;simp at hb
theorem IC{α:Type}{sz:Nat}:∀{xs:List (List α)} {i j:Nat} {l:List α} {x:α},(∀l∈xs,l.length=sz)→xs[i]? = some l→l[j]? = some x→xs.flatten[i*sz+j]? = some x
 | l'::xs,0,j,l,x,_,h1,h2=>by
  simp at h1;subst h1;rw[Aas,Nat.zero_mul,Aao,Aad (aL h2)];exact h2
 | l'::xs,i+1,j,l,x,h,h1,h2=>by
  rw[Aas,Nat.succ_mul,Aab (by rw[h l' (by simp)];omega),h l' (by simp),show i*sz+sz+j-sz=i*sz+j by omega];exact IC (fun l hl=>h l (by simp[hl])) (by simpa using h1) h2
theorem b9.view{h:AH}{a:AV}{d:CD}{fp:List Nat}(o:b9 h a d fp):ou h a (d.av true)∧∀base,(∀b∈fp,base≤b)→EI base h a (d.av false):=by
 induction o with
 | i=>rw[CD.mY,CD.mY];exact⟨.same _,fun _ _=>.same _ (.int _ _)⟩
 | b=>rw[CD.uC,CD.uC];exact⟨.same _,fun _ _=>.same _ (.bool _)⟩
 | s=>rw[CD.uD,CD.uD];exact⟨.same _,fun _ _=>.same _ (.str _)⟩
 | nil=>rw[CD.pV,CD.pV];exact⟨.nil _ _,fun _ _=>.nil _ _⟩
 | gs b g len cap sz ex zas tail xs fps h1 h2 h3 h4 ht hc hf r ih=>
  subst h2;rw[CD.pV,CD.pV];have look:∀(β:Bool) (i:Nat) (l:List AV),(xs.map fun x=>x.map (CD.av β))[i]? = some l→∃m,xs[i]? = some m∧l=m.map (CD.av β):=by
   intro β i l hl;rw[Aak,Aae]at hl;obtain⟨m,hm,rfl⟩:=hl;exact⟨m,hm,rfl⟩
  have cell:∀(β:Bool) (i j:Nat) (l:List AV) (x:AV),(xs.map fun x=>x.map (CD.av β))[i]? = some l→l[j]? = some x→∃a d fp,zas[i*sz+j]? = some a∧xs.flatten[i*sz+j]? = some d∧fps[i*sz+j]? = some fp∧x=d.av β:=by
   intro β i j l x hl hx;obtain⟨m,hm,rfl⟩:=look β i l hl;rw[Aak,Aae]at hx;obtain⟨d,hd,rfl⟩:=hx;have hd':=IC h3 hm hd;have hlt:=aL hd';exact⟨_,d,_,Aaa (by omega),hd',Aaa (by omega),rfl⟩
  refine⟨.gs b g 0 _ cap sz ex false (zas++tail) _ (fun i j=>zas.getD (i*sz+j) .any) (fC h1) (by simp) (by simp) ?_ ?_ ?_,fun base hb=>.gs b g 0 _ cap sz ex false (zas++tail) _ (fun i j=>zas.getD (i*sz+j) .any) (hb b (by simp)) (fC h1) (by simp) (by simp) ?_ ?_ ?_⟩
  ·intro i l hl;obtain⟨m,hm,rfl⟩:=look _ i l hl;simpa using h3 m (Aag hm)
  ·intro i l hl j x hx;obtain⟨a,d,fp,e1,e2,e3,rfl⟩:=cell _ i j l x hl hx;rw[Aao,Aad (aL e1),e1];simp[Aac,e1]
  ·intro i l hl j x hx;obtain⟨a,d,fp,e1,e2,e3,rfl⟩:=cell _ i j l x hl hx;have:=(ih _ a d fp e1 e2 e3).1;simpa[Aac,e1]using this
  ·intro i l hl;obtain⟨m,hm,rfl⟩:=look _ i l hl;simpa using h3 m (Aag hm)
  ·intro i l hl j x hx;obtain⟨a,d,fp,e1,e2,e3,rfl⟩:=cell _ i j l x hl hx;rw[Aao,Aad (aL e1),e1];simp[Aac,e1]
  ·intro i l hl j x hx;obtain⟨a,d,fp,e1,e2,e3,rfl⟩:=cell _ i j l x hl hx;have:=(ih _ a d fp e1 e2 e3).2 base fun b h=>hb b (Aan _ (Aai.2 ⟨fp,Aag e3,h⟩));simpa[Aac,e1]using this
theorem aM.snap{h:AH}:∀{zas:List AV} {ds:List CD} {fp:List Nat},aM h zas ds fp→uy h zas (ds.map (CD.av true))
 | [],[],_,_=>trivial
 | a::zas,d::ds,fp,⟨f1,f2,e,o1,o2⟩=>⟨o1.view.1,aM.snap o2⟩
theorem aM.Qi{h:AH}{base:Nat}:∀{zas:List AV} {ds:List CD} {fp:List Nat},aM h zas ds fp→(∀b∈fp,base≤b)→∀(i:Nat) (y:AV),(ds.map (CD.av false))[i]? = some y→∃x,zas[i]? = some x∧EI base h x y
 | [],[],_,_,_,i,y,hy=>by simp at hy
 | a::zas,d::ds,fp,⟨f1,f2,e,o1,o2⟩,hb,i,y,hy=>by
  subst e;cases i with
  | zero=>simp at hy;subst hy;exact⟨a,rfl,o1.view.2 base fun b h=>hb b (by simp[h])⟩
  | succ i=>exact aM.Qi o2 (fun b h=>hb b (by simp[h])) i y (by simpa using hy)
inductive RD where|c (d:CD)|a (cs:List CD)
def RD.av(β:Bool):RD→AV|.c d=>d.av β|.a cs=>.agg (cs.map (CD.av β))
def Cv(h:AH)(v:AV):RD→List Nat→Prop
 | .c d,fp=>b9 h v d fp
 | .a cs,fp=>∃zas,v=.agg zas∧aM h zas cs fp
def kZ(h:AH):List AV→List RD→List Nat→Prop
 | [],[],fp=>fp=[]
 | v::vs,r::rs,fp=>∃f1 f2,fp=f1++f2∧Cv h v r f1∧kZ h vs rs f2
 | _,_,_=>False
def vb:List AV→AV|[v]=>v|vs=>.tup vs
theorem Cv.frame{h h':AH}{v:AV}{r:RD}{fp:List Nat}(o:Cv h v r fp)(hh:∀b∈fp,h'[b]? = h[b]?):Cv h' v r fp:=by
 cases r with
 | c d=>exact b9.frame o hh
 | a cs=>obtain⟨zas,e,o⟩:=o;exact⟨zas,e,o.frame hh⟩
theorem kZ.frame{h h':AH}:∀{vs:List AV} {rs:List RD} {fp:List Nat},kZ h vs rs fp→(∀b∈fp,h'[b]? = h[b]?)→kZ h' vs rs fp
 | [],[],_,o,_=>o
 | a::zas,d::ds,fp,⟨f1,f2,e,o1,o2⟩,hh=>by
  subst e;exact⟨f1,f2,rfl,o1.frame fun b hb=>hh b (by simp[hb]),kZ.frame o2 fun b hb=>hh b (by simp[hb])⟩
theorem Cv.lt{h:AH}{v:AV}{r:RD}{fp:List Nat}(o:Cv h v r fp):∀b∈fp,b<h.length:=by
 cases r with
 | c d=>exact b9.lt o
 | a cs=>obtain⟨zas,e,o⟩:=o;exact o.lt
theorem kZ.lt{h:AH}:∀{vs:List AV} {rs:List RD} {fp:List Nat},kZ h vs rs fp→∀b∈fp,b<h.length
 | [],[],_,o=>by cases o;intro b hb;simp at hb
 | a::zas,d::ds,fp,⟨f1,f2,e,o1,o2⟩=>by
  subst e;intro b hb;rcases Aaf.1 hb with hb|hb
  ·exact o1.lt b hb
  ·exact kZ.lt o2 b hb
theorem Cv.nb{h:AH}{base:Nat}{v:AV}{r:RD}{fp:List Nat}(o:Cv h v r fp)(hb:∀b∈fp,base≤b):NB base v:=by
 cases r with
 | c d=>exact b9.nb o hb
 | a cs=>obtain⟨zas,rfl,o⟩:=o;exact .agg _ (o.nb hb)
theorem kZ.nb{h:AH}{base:Nat}:∀{vs:List AV} {rs:List RD} {fp:List Nat},kZ h vs rs fp→(∀b∈fp,base≤b)→∀x∈vs,NB base x
 | [],[],_,_,_=>fun x hx=>by simp at hx
 | a::zas,d::ds,fp,⟨f1,f2,e,o1,o2⟩,hb=>by
  subst e;intro x hx;rcases Aam.1 hx with rfl|hx
  ·exact o1.nb fun b h=>hb b (by simp[h])
  ·exact kZ.nb o2 (fun b h=>hb b (by simp[h])) x hx
theorem Fv{base:Nat}{vs:List AV}(h:∀x∈vs,NB base x):NB base (vb vs):=by
 unfold vb;split
 ·exact h _ (by simp)
 ·exact .tup _ h
theorem aM.Kq{h:AH}{base:Nat}:∀{zas:List AV} {ds:List CD} {fp:List Nat},aM h zas ds fp→(∀b∈fp,base≤b)→∀b∈fp,∀g cs,h[b]? = some (some (g,cs))→∀x∈cs,NB base x
 | [],[],_,o,_=>by cases o;intro b hb;simp at hb
 | a::zas,d::ds,fp,⟨f1,f2,e,o1,o2⟩,hh=>by
  subst e;intro b hb;rcases Aaf.1 hb with hb|hb
  ·exact o1.Kq (fun b h=>hh b (by simp[h])) b hb
  ·exact aM.Kq o2 (fun b h=>hh b (by simp[h])) b hb
theorem kZ.Kq{h:AH}{base:Nat}:∀{vs:List AV} {rs:List RD} {fp:List Nat},kZ h vs rs fp→(∀b∈fp,base≤b)→∀b∈fp,∀g cs,h[b]? = some (some (g,cs))→∀x∈cs,NB base x
 | [],[],_,o,_=>by cases o;intro b hb;simp at hb
 | a::zas,d::ds,fp,⟨f1,f2,e,o1,o2⟩,hh=>by
  subst e;intro b hb;rcases Aaf.1 hb with hb|hb
  ·cases d with
   | c d=>exact b9.Kq o1 (fun b h=>hh b (by simp[h])) b hb
   | a cs=>obtain⟨as',_,o1⟩:=o1;exact aM.Kq o1 (fun b h=>hh b (by simp[h])) b hb
  ·exact kZ.Kq o2 (fun b h=>hh b (by simp[h])) b hb
theorem Cv.Qi{h:AH}{base:Nat}{v:AV}{r:RD}{fp:List Nat}(o:Cv h v r fp)(hb:∀b∈fp,base≤b):EI base h v (r.av false):=by
 cases r with
 | c d=>exact(b9.view o).2 base hb
 | a cs=>
  obtain⟨zas,rfl,o⟩:=o;refine .agg zas _ (by simp[o.len]) (fun i=>zas.getD i .any) (fun i y hy=>?_) (fun i y hy=>?_)
  ·obtain⟨x,hx,_⟩:=o.Qi hb i y hy;simp[Aac,hx]
  ·obtain⟨x,hx,hf⟩:=o.Qi hb i y hy;simpa[Aac,hx]using hf
theorem kZ.Qi{h:AH}{base:Nat}:∀{vs:List AV} {rs:List RD} {fp:List Nat},kZ h vs rs fp→(∀b∈fp,base≤b)→vs.length=rs.length∧∀(i:Nat) (y:AV),(rs.map (RD.av false))[i]? = some y→∃x,vs[i]? = some x∧EI base h x y
 | [],[],_,_,_=>⟨rfl,fun i y hy=>by simp at hy⟩
 | a::zas,d::ds,fp,⟨f1,f2,e,o1,o2⟩,hb=>by
  subst e;obtain⟨h1,h2⟩:=kZ.Qi o2 (fun b h=>hb b (by simp[h]));refine⟨by simp[h1],fun i y hy=>?_⟩;cases i with
  | zero=>simp at hy;subst hy;exact⟨a,rfl,o1.Qi fun b h=>hb b (by simp[h])⟩
  | succ i=>exact h2 i y (by simpa using hy)
theorem kZ.Ww{h:AH}{base:Nat}{vs:List AV}{rs:List RD}{fp:List Nat}(o:kZ h vs rs fp)(hb:∀b∈fp,base≤b):EI base h (vb vs) (vb (rs.map (RD.av false))):=by
 obtain⟨h1,h2⟩:=o.Qi hb
 match vs,rs,h1 with
 | [v],[r],_=>obtain⟨x,e,hf⟩:=h2 0 _ rfl;simp at e;subst e;exact hf
 | [],[],_=>exact .tup _ _ rfl (fun _=>.any) (fun i y hy=>by simp at hy) (fun i y hy=>by simp at hy)
 | v::v'::vs,r::r'::rs,h1=>
  refine .tup _ _ (by simpa using h1) (fun i=>(v::v'::vs).getD i .any) (fun i y hy=>?_) (fun i y hy=>?_)
  ·obtain⟨x,hx,_⟩:=h2 i y hy;simp only[Aac,hx];rfl
  ·obtain⟨x,hx,hf⟩:=h2 i y hy;simp only[Aac,hx];exact hf
def aX(h:AH)(rs:List RD)(v:AV)(h':AH):Prop:=
 ∃vs new fp,v=vb vs∧h'=h++new∧kZ h' vs rs fp∧fp.Nodup∧(∀b∈fp,h.length≤b)∧∀b,h.length≤b→b<h'.length→b∉fp→h'[b]? = some none
theorem aX.Kq{h:AH}{rs:List RD}{vs:List AV}{new:AH}{fp:List Nat}(o:kZ (h++new) vs rs fp)(hb:∀b∈fp,h.length≤b)(hd:∀b,h.length≤b→b<(h++new).length→b∉fp→(h++new)[b]? = some none):
 NBH h.length new:=by
 intro b g cs hcs x hx;have hlt:=aL hcs;have e:(h++new)[h.length+b]? = some (some (g,cs)):=by rw[Aab (by omega)];simpa using hcs
 by_cases hm:h.length+b∈fp
 ·exact o.Kq hb _ hm g cs e x hx
 ·have:=hd (h.length+b) (by omega) (by simp;omega) hm;rw[e]at this;cases this
section
variable {P:Program} {Θ:ub} {Γ:bG}
theorem T.prune{f:FuncId}{args:List AV}{h:AH}{Q K:AV→AH→Prop}(t:T P Γ f args h Q)(hq:∀v h',Q v h'→∃h'',h''.length=h'.length∧(∀(b:Nat) (x:Nat×List AV),h''[b]? = some (some x)→h'[b]? = some (some x))∧K v h''):T P Γ f args h K:=by
 refine⟨t.1,fun ρ w cargs m gk ra=>(t.2 ρ w cargs m gk ra).mono ?_⟩;rintro e w' ⟨v,cv,ρ',h',rfl,r1,r2,ev,q⟩;obtain⟨h'',hl,hs,hk⟩:=hq _ _ q;refine⟨v,cv,ρ',h'',rfl,r1,⟨fun b g cs hb=>r2.hp b g cs (hs b _ hb),r2.lp,r2.len,r2.nod,fun b g cs b' g' cs' c o n o' n' e1 e2=>r2.hh b g cs b' g' cs' c o n o' n' (hs _ _ e1) (hs _ _ e2),fun b g cs c o n i e1=>r2.hl b g cs c o n i (hs _ _ e1),r2.im,r2.iml,
  fun β c arr b g cs o n e1 e2=>r2.imh β c arr b g cs o n e1 (hs _ _ e2),fun b g c o n e1=>?_⟩,⟨ev.le,ev.ext,ev.sz,ev.fr,fun b g cs c o n e1=>ev.own b g cs c o n (hs _ _ e1),ev.ownl,ev.imo,by rw[hl];exact ev.len,ev.os,ev.out⟩,hk⟩
 obtain⟨d1,d2,d3⟩:=r2.dom b g c o n e1;exact⟨d1,by rw[hl];exact d2,fun g' cs e2=>d3 g' cs (hs _ _ e2)⟩
theorem T.fresh{f:FuncId}{args:List AV}{h:AH}{Q:AV→AH→Prop}{rs:List RD}(t:T P Γ f args h Q)
 (hq:∀v h',Q v h'→∃vs new fp,v=vb vs∧h'=h++new∧kZ h' vs rs fp∧fp.Nodup∧∀b∈fp,h.length≤b):T P Γ f args h (aX h rs):=by
 refine t.prune fun v h' q=>?_;obtain⟨vs,new,fp,rfl,rfl,o,nd,hb⟩:=hq v h' q
 let new':AH:=new.mapIdx fun i x=>if h.length+i∈fp then x else none
 have cF:∀b,(h++new')[b]? = if h.length≤b∧b<(h++new).length∧b∉fp then some none else (h++new)[b]?:=by
  intro b;rcases Aar b h.length with hlt|hge
  ·rw[Aad hlt,Aad hlt,if_neg (by omega)]
  ·rw[Aab hge,Aab hge];simp only[new',List.getElem?_mapIdx];rw[show h.length+(b-h.length)=b by omega];rcases Aar (b-h.length) new.length with hl|hl
   ·rw[Aaa hl];by_cases hm:b∈fp
    ·simp[hm]
    ·simp only[hm,if_false,Option.map_some,not_false_eq_true,and_true];rw[if_pos ⟨hge,by simp;omega⟩]
   ·rw[List.getElem?_eq_none hl];simp only[Option.map_none];rw[if_neg (by simp;omega)]
 refine⟨h++new',by simp[new'],fun b x e=>?_,vs,new',fp,rfl,rfl,o.frame fun b hm=>?_,nd,hb,fun b h1 h2 h3=>?_⟩
 ·rw[cF]at e;split at e
  ·cases e
  ·exact e
 ·rw[cF,if_neg (by simp[hm])]
 ·rw[cF,if_pos ⟨h1,by simp[new']at h2;simpa using h2,h3⟩]
theorem T.frozen{f:FuncId}{args:List AV}{h:AH}{rs:List RD}(t:T P Γ f args h (aX h rs)):T P Γ f args h fun v h'=>v=vb (rs.map (RD.av false))∧h'=h:=by
 refine t.freeze ?_;rintro v h' ⟨vs,new,fp,rfl,rfl,o,nd,hb,hd⟩;exact⟨h,new,_,rfl,rfl,fun b g cs hb=>.inl hb,o.Ww hb,rfl,rfl⟩
theorem al.own{f:FuncId}{args args':List AV}{s:St}{rs:List RD}{K:AV→St→Prop}(ho:args.all gq=true)(hs:uy s.heap args args')
 (t:∀h,T P Γ f args' h (aX h rs)) (hk:∀v h',aX s.heap rs v h'→K v { s with heap:=h' }):al P Γ f args s K:=by
 refine al.snap ho hs (t _) ?_;rintro v h' ⟨vs,new,fp,rfl,rfl,o,nd,hb,hd⟩;have hlr:(List.replicate s.heap.length (none:Option (Nat×List AV))).length=s.heap.length:=by simp
 have same:∀b,s.heap.length≤b→(s.heap++new)[b]? = (List.replicate s.heap.length none++new)[b]?:=fun b hb=>by
  rw[Aab hb,Aab (by rw[hlr];exact hb),hlr]
 rw[hlr]at hb hd;have o':kZ (s.heap++new) vs rs fp:=o.frame fun b hm=>same b (hb b hm);have hd':∀b,s.heap.length≤b→b<(s.heap++new).length→b∉fp→(s.heap++new)[b]? = some none:=fun b h1 h2 h3=>by
  rw[same b h1];exact hd b h1 (by simp at h2 ⊢;omega) h3
 exact⟨new,rfl,Fv (o.nb hb),aX.Kq o' hb hd',hk _ _ ⟨vs,new,fp,rfl,rfl,o',nd,hb,hd'⟩⟩
theorem al.fk{f:FuncId}{args args':List AV}{s:St}{V:AV}{K:AV→St→Prop}(ho:args.all gq=true)(hs:uy s.heap args args')
 (t:∀h,T P Γ f args' h fun v h'=>v=V∧h'=h) (hv:NB s.heap.length V) (hk:K V s):al P Γ f args s K:=by
 refine al.snap ho hs (t _) ?_;rintro v h' ⟨rfl,rfl⟩;exact⟨[],by simp,hv,.nil _,by simpa using hk⟩
theorem T.Va{f:FuncId}{pre post:List AV}{β:Bool}{sz:Nat}{h:AH}{Q:AV→AH→Prop}(t1:T P Γ f (pre++.nils::post) h Q)(t2:∀a c,T P Γ f (pre++.opq (.slice (some a) 0 c)::post) h Q):
 T P Γ f (pre++.vs β sz false []::post) h Q:=by
 refine⟨t1.1,fun ρ w cargs m gk ra=>?_⟩;have hl:=ra.1;have hi:=ra.2 pre.length _ (by rw[Aab (Aay _),Aaw];rfl);have repl:∀y,RV ρ [] y (cargs.getD pre.length default)→kX ρ [] (pre++y::post) cargs:=by
  intro y hy;refine⟨by simpa using hl,fun i x hx=>?_⟩;by_cases he:i=pre.length
  ·subst he;rw[Aab (Aay _),Aaw]at hx;injection hx with hx
   subst hx;exact hy
  ·refine ra.2 i x ?_;rcases Aar i pre.length with h1|h1
   ·rw[Aad h1]at hx ⊢;exact hx
   ·rw[Aab h1]at hx ⊢;obtain⟨j,hj⟩:∃j,i-pre.length=j+1:=⟨i-pre.length-1,by omega⟩
    rw[hj]at hx ⊢;exact hx
 generalize cargs.getD pre.length default=cv at hi repl;cases hi with
 | vs _ _ _ _ _ c o cap' f h1 h2 h3 h4 r=>exact(t2 _ _).2 ρ w cargs m gk (repl _ (.opq _ _))
 | vs0 _ _ _ _ a cap' h2=>exact(t2 _ _).2 ρ w cargs m gk (repl _ (.opq _ _))
 | vsn=>exact t1.2 ρ w cargs m gk (repl _ (.nils _))
end
end Go.AM
