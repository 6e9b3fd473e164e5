import Derived.Test.YtolciaflplefcaaGreatAmG1
set_option linter.unusedVariables false
set_option linter.unusedSimpArgs false
open List renaming eq_nil_of_length_eq_zero→Aaa,getD_eq_getElem?_getD→Aab,getElem?_append_left→Aae,getElem?_eq_getElem→Aaf,getElem?_append_right→Aaj,getElem?_map→Aal,getElem?_take→Aam,nil_append→Aan,all_eq_true→Aao,length_nil→Aaq,getElem?_drop→Aar,getElem?_eq_none→Aat,mem_of_getElem?→Aau,replicate_succ→Aaw,flatten_cons→Aay,ext_getElem?→Aaz,flatten_nil→AaA
open Nat renaming mul_le_mul_right→Aac,mul_le_mul_left→Aad,zero_add→Aag,le_trans→Aah,add_mul→Aak,le_refl→Aav,eq_zero_or_pos→Aax,add_assoc→AaC,mul_assoc→AaD,mod_lt→AaE
open Option renaming bind_some→Aai,map_some→Aap,getD_none→Aas
open Int renaming natCast_mul→AaB
namespace Go.AM
section
variable {P:Program} {Γ:bG} {ρ:j9} {ls:List Nat} {s:St} {a:Act} {w:World}
def OB:Option Value→Option Nat→Prop
 | none,none=>True
 | some v,some n=>∃k i,v=.int k i∧0≤i∧n=i.toNat
 | _,_=>False
theorem run_sliceBound{k:IntKind}{i:Int}{y:Nat}{code:BoundsCode}(h0:0≤i)(h1:i.toNat≤y):(Instr.sliceBound (.int k i) y code).run P w=.ok i.toNat w:=by
 have:0≤i∧i≤y:=⟨h0,by omega⟩
 simp[Instr.sliceBound,asIntOf,this]
theorem iI{isSl:Bool}{len cap:Nat}{lo hi mx:Option Value}{l h m:Option Nat}(ol:OB lo l)(oh:OB hi h)(om:OB mx m)(hm:(h.isNone && m.isSome)=false)
 (h1:l.getD 0≤h.getD len) (h2:h.getD len≤m.getD cap) (h3:m.getD cap≤cap):
 (Instr.sliceBounds isSl len cap lo hi mx).run P w=.ok (l.getD 0,h.getD len,m.getD cap) w:=by
 have e1:∀{code},(match mx with|some v=>Instr.sliceBound v cap code|none=>pure cap:Sem Nat).run P w=.ok (m.getD cap) w:=by
  intro code;cases mx<;>cases m<;>simp[OB]at om
  ·rfl
  ·obtain⟨k,i,rfl,h0,rfl⟩:=om;simp at h3;exact run_sliceBound h0 (by omega)
 cases mx with
 | none=>
  cases m with
  | some _=>simp[OB]at om
  | none=>
   simp only[Aas]at *;cases hi<;>cases h<;>simp[OB]at oh
   ·cases lo<;>cases l<;>simp[OB]at ol
    ·simp[Instr.sliceBounds]
    ·obtain⟨k,i,rfl,h0,rfl⟩:=ol;simp at h1;simp[Instr.sliceBounds,run_sliceBound h0 (show i.toNat≤len by omega)]
   ·obtain⟨k',i',rfl,h0',rfl⟩:=oh;simp at h1 h2;cases lo<;>cases l<;>simp[OB]at ol
    ·simp[Instr.sliceBounds,run_sliceBound h0' (show i'.toNat≤cap by omega)]
    ·obtain⟨k,i,rfl,h0,rfl⟩:=ol;simp at h1;simp[Instr.sliceBounds,run_sliceBound h0' (show i'.toNat≤cap by omega),run_sliceBound h0 (show i.toNat≤i'.toNat by omega)]
 | some v=>
  cases m with
  | none=>simp[OB]at om
  | some m=>
   obtain⟨k'',i'',rfl,h0'',rfl⟩:=om;cases hi<;>cases h<;>simp[OB]at oh
   ·simp at hm
   ·obtain⟨k',i',rfl,h0',rfl⟩:=oh;simp at h1 h2 h3;cases lo<;>cases l<;>simp[OB]at ol
    ·simp[Instr.sliceBounds,run_sliceBound h0'' (show i''.toNat≤cap by omega),run_sliceBound h0' (show i'.toNat≤i''.toNat by omega)]
    ·obtain⟨k,i,rfl,h0,rfl⟩:=ol;simp at h1;simp[Instr.sliceBounds,run_sliceBound h0'' (show i''.toNat≤cap by omega),run_sliceBound h0' (show i'.toNat≤i''.toNat by omega),run_sliceBound h0 (show i.toNat≤i'.toNat by omega)]
theorem GZ(rel:Rel Γ ρ ls s a w){lo:Option Operand}{d n:Nat}(h:AG Γ s d (lo.map lU)=some n):
 OB (lo.map a.eval) (if lo.isSome then some n else none)∧(lo=none→n=d):=by
 cases lo with
 | none=>simp[AG]at h;exact⟨trivial,fun _=>h.symm⟩
 | some x=>
  refine⟨?_,by simp⟩;simp only[Aap,AG]at h;have r:=bu rel x;cases hx:s.eval Γ (lU x)<;>simp only[hx,JC]at h<;>(try (simp at h;done))
  rename_i k i;simp only[Aai]at h;split at h
  ·rename_i h0;injection h with h
   rw[hx]at r;simp only[Aap,Option.isSome_some,if_true,OB];cases hv:a.eval x<;>rw[hv]at r<;>cases r;exact⟨_,_,rfl,h0,h.symm⟩
  ·cases h
theorem Jf{Θ:ub}(tab:iO P Θ){t:TypeId}{k:SK}(h:LN Θ t=some k):
 match k with
 | .str=>P.underlying t=some .string
 | .sl sz=>∃e ei,P.underlying t=some (.slice e)∧TF P e ei∧ei.size=sz
 | .arr n=>∃e ei,P.underlying t=some (.array n e)∧TF P e ei∧ei.size=1:=by
 unfold LN at h;cases ht:Θ t with
 | none=>simp[ht]at h
 | some ti=>
  simp only[ht,Aai]at h;split at h
  ·rename_i hk;injection h with h;subst h;exact(tab.tf ht).vf hk
  ·rename_i e hk;cases he:Θ e with
   | none=>simp[he]at h
   | some ei=>
    simp[he]at h;subst h;exact⟨e,ei,(tab.tf ht).lY hk,tab.tf he,rfl⟩
  ·rename_i n e hk;cases he:Θ e with
   | none=>simp[he]at h
   | some ei=>
    simp only[he,Aai]at h;split at h
    ·rename_i h1;injection h with h
     subst h;exact⟨e,ei,(tab.tf ht).BU hk,tab.tf he,h1⟩
    ·cases h
  ·cases h
theorem JI{Θ:ub}(tab:iO P Θ){t:TypeId}{k:SK}(hk:LN Θ t=some k){x:AV}{xv:Value}(r:RV ρ ls x xv){lo hi mx:Option Value}{l h m:Option Nat}
 (ol:OB lo l) (oh:OB hi h) (om:OB mx m) {v:AV} (hv:pO k x (l.getD 0) h m=some v):
 ∃cv,(Instr.sliceAt t xv lo hi mx).run P w=.ok cv w∧RV ρ ls v cv:=by
 have hs:=Jf tab hk;unfold pO at hv;split at hv
 ·cases hv
 ·rename_i hm0;have hm:(h.isNone && m.isSome)=false:=by simpa using hm0
  cases k with
  | str=>
   cases r with
   | str _ sb=>
    simp only at hv;split at hv
    ·rename_i hmn;split at hv
     ·rename_i hle;injection hv with hv
      subst hv;have hmn':m=none:=by simpa using hmn
      subst hmn';have:mx=none:=by cases mx with
       | none=>rfl
       | some v=>simp[OB]at om
      subst this;have hb:=iI (P:=P) (w:=w) (isSl:=false) (len:=sb.size) (cap:=sb.size) (m:=none) (mx:=none) ol oh trivial (by simp) hle.1 hle.2 (by simp);simp only[Aas]at hb;exact⟨.string (sb.extract (l.getD 0) (h.getD sb.size)),by simp[Instr.sliceAt,Instr.slice,aS hs,hb],.str _ _⟩
     ·cases hv
    ·cases hv
   | _=>simp at hv
  | sl sz=>
   obtain⟨e,ei,hu,he,hsz⟩:=hs;subst hsz;cases r with
   | nils=>
    simp only at hv;split at hv
    ·rename_i hz;injection hv with hv
     subst hv;have hb:=iI (P:=P) (w:=w) (isSl:=true) (len:=0) (cap:=0) ol oh om hm (by omega) (by omega) (by omega);refine⟨.slice none 0 0,?_,.nils _⟩;simp[Instr.sliceAt,Instr.slice,aS hu,hb,hz,fP he]
    ·cases hv
   | vs _ β sz' ex xs c o cap' f h1 h2 h3 h4 r=>
    simp only at hv;split at hv
    ·rename_i hszz;split at hv
     ·rename_i hle;have hm1:m.getD cap'≤cap'∧h.getD xs.length≤m.getD cap'∧v=.vs β ei.size (if m.isSome then true else (ex && h.getD xs.length == xs.length)) ((xs.take (h.getD xs.length)).drop (l.getD 0))∧(∀m',m=some m'→m'=h.getD xs.length):=by
       cases m with
       | none=>injection hv with hv;exact⟨by simp,by simp;omega,by simp[←hv],by simp⟩
       | some m'=>
        simp only at hv;split at hv
        ·rename_i hmm;injection hv with hv
         exact⟨by simp;omega,by simp;omega,by simp[←hv],by simpa using hmm⟩
        ·cases hv
      obtain⟨hm1,hm2,rfl,hm3⟩:=hm1;have hb:=iI (P:=P) (w:=w) (isSl:=true) (len:=xs.length) (cap:=cap') ol oh om hm hle.1 hm2 hm1;have run:(Instr.sliceAt t (.slice (some ⟨c,o,none⟩) xs.length cap') lo hi mx).run P w=.ok (.slice (if m.getD cap'=l.getD 0 then some ⟨c,o,none⟩else some ⟨c,o+l.getD 0*ei.size,none⟩) (h.getD xs.length-l.getD 0) (m.getD cap'-l.getD 0)) w:=by
       simp[Instr.sliceAt,Instr.slice,aS hu,hb,fP he,kO]
      have hexact:(if m.isSome then true else (ex && h.getD xs.length == xs.length))=true→m.getD cap'-l.getD 0=h.getD xs.length-l.getD 0:=by
       intro hx;cases m with
       | none=>
        simp at hx;have:=h2 hx.1;simp;omega
       | some m'=>have:=hm3 m' rfl;simp;omega
      have hlen:((xs.take (h.getD xs.length)).drop (l.getD 0)).length=h.getD xs.length-l.getD 0:=by simp;omega
      refine⟨_,run,?_⟩;by_cases hml:m.getD cap'=l.getD 0
      ·rw[if_pos hml];have hnil:(xs.take (h.getD xs.length)).drop (l.getD 0)=[]:=Aaa (by rw[hlen];omega);rw[hnil,show h.getD xs.length-l.getD 0=0 by omega];exact .vs0 _ _ _ _ _ _ (fun _=>by omega)
      ·rw[if_neg hml];have cF:∀(i:Nat) (y:List AV),((xs.take (h.getD xs.length)).drop (l.getD 0))[i]? = some y→xs[l.getD 0+i]? = some y:=by
        intro i y hy;rw[Aar,Aam]at hy;split at hy
        ·exact hy
        ·cases hy
       have hle2:h.getD xs.length-l.getD 0≤m.getD cap'-l.getD 0:=by omega
       rw[←hlen]at hle2 hexact ⊢;refine RV.vs ls β ei.size _ _ c (o+l.getD 0*ei.size) (m.getD cap'-l.getD 0) (fun i j=>f (l.getD 0+i) j) hle2 hexact (fun i y hy=>?_) (fun i y hy j x hx=>?_) (fun i y hy j x hx=>r _ y (cF i y hy) j x hx)
       ·rw[hszz];exact h3 _ y (cF i y hy)
       ·obtain⟨arr,e1,e2⟩:=h4 _ y (cF i y hy) j x hx;refine⟨arr,e1,?_⟩;rw[←e2,hszz];congr 1;rw[Aak];omega
     ·cases hv
    ·cases hv
   | vs0 _ β sz' ex ad cap' h2=>
    simp only at hv;split at hv
    ·split at hv
     ·rename_i hle;simp only[Aaq]at hle;have hm1:m.getD cap'≤cap'∧h.getD 0≤m.getD cap'∧∃ex',v=.vs β ei.size ex' []∧(ex'=true→m.getD cap'-l.getD 0=0):=by
       cases m with
       | none=>
        injection hv with hv
        refine⟨by simp,by omega,(ex && h.getD 0 == 0),by rw[←hv];simp,fun hx=>?_⟩;simp at hx;have:=h2 hx.1;simp;omega
       | some m'=>
        simp only at hv;split at hv
        ·rename_i hmm;injection hv with hv
         simp at hmm;exact⟨by simp;omega,by simp;omega,true,by simp[←hv],fun _=>by simp;omega⟩
        ·cases hv
      obtain⟨hm1,hm2,ex',rfl,hx⟩:=hm1;have hb:=iI (P:=P) (w:=w) (isSl:=true) (len:=0) (cap:=cap') ol oh om hm (by omega) hm2 hm1;have run:(Instr.sliceAt t (.slice (some ad) 0 cap') lo hi mx).run P w=.ok (.slice (some (if m.getD cap'=l.getD 0 then ad else ad.add (l.getD 0*ei.size))) 0 (m.getD cap'-l.getD 0)) w:=by
       simp[Instr.sliceAt,Instr.slice,aS hu,hb,fP he];refine⟨by split<;>rfl,by omega⟩
      exact⟨_,run,.vs0 _ _ _ _ _ _ hx⟩
     ·cases hv
    ·cases hv
   | vsn _ β sz' ex=>
    simp only at hv;split at hv
    ·split at hv
     ·rename_i hle;simp only[Aaq]at hle;have hm1:h.getD 0=0∧m.getD 0=0∧∃ex',v=.vs β ei.size ex' []:=by
       cases m with
       | none=>
        injection hv with hv
        exact⟨by omega,by simp,(ex && h.getD 0 == 0),by rw[←hv];simp⟩
       | some m'=>
        simp only at hv;split at hv
        ·rename_i hmm;injection hv with hv
         simp at hmm;exact⟨by omega,by simp;omega,true,by simp[←hv]⟩
        ·cases hv
      obtain⟨hh0,hm0,ex',rfl⟩:=hm1;have hb:=iI (P:=P) (w:=w) (isSl:=true) (len:=0) (cap:=0) ol oh om hm (by omega) (by omega) (by omega);have hl0:l.getD 0=0:=by omega
      refine⟨.slice none 0 0,?_,.vsn _ _ _ _⟩;simp[Instr.sliceAt,Instr.slice,aS hu,hb,hl0,hh0,hm0,fP he]
     ·cases hv
    ·cases hv
   | gs _ b g off len cap sz' ex c o n cap' hm0 h1 h2 h3 h4=>
    simp only at hv;split at hv
    ·rename_i hszz;subst hszz;split at hv
     ·rename_i hle;injection hv with hv
      subst hv;have hm1:m.getD cap'≤cap'∧h.getD len≤m.getD cap'∧m.getD cap≤m.getD cap'∧((ex || m.isSome)=true→m.getD cap'=m.getD cap):=by
       cases m with
       | none=>simp at hle ⊢;exact⟨by omega,by omega,h3⟩
       | some m'=>simp at hle ⊢;omega
      have hb:=iI (P:=P) (w:=w) (isSl:=true) (len:=len) (cap:=cap') ol oh om hm hle.1 hm1.2.1 hm1.1;have run:(Instr.sliceAt t (.slice (some ⟨c,o+off,none⟩) len cap') lo hi mx).run P w=.ok (.slice (if m.getD cap'=l.getD 0 then some ⟨c,o+off,none⟩else some ⟨c,o+(off+l.getD 0*ei.size),none⟩) (h.getD len-l.getD 0) (m.getD cap'-l.getD 0)) w:=by
       simp[Instr.sliceAt,Instr.slice,aS hu,hb,fP he,kO,AaC]
      refine⟨_,run,?_⟩;by_cases hml:m.getD cap'=l.getD 0
      ·rw[if_pos hml];rw[show h.getD len-l.getD 0=0 by omega,show m.getD cap'-l.getD 0=0 by omega,show m.getD cap-l.getD 0=0 by omega];exact .gs0 _ _ _ _ _ _ _ _ _ _ hm0
      ·rw[if_neg hml];refine .gs _ _ _ _ _ _ _ _ _ _ _ _ hm0 (by omega) (by omega) (fun hx=>by rw[hm1.2.2.2 hx]) ?_;have:l.getD 0*ei.size+(m.getD cap'-l.getD 0)*ei.size≤cap'*ei.size:=by
        rw[←Aak];exact Aac _ (by omega)
       omega
     ·cases hv
    ·cases hv
   | gs0 _ b g off sz' ex c o n ad hm0=>
    simp only at hv;split at hv
    ·split at hv
     ·rename_i hle;injection hv with hv
      subst hv;have hm1:m.getD 0=0:=by omega
      have hb:=iI (P:=P) (w:=w) (isSl:=true) (len:=0) (cap:=0) ol oh om hm hle.1 hle.2.1 hle.2.2;have run:(Instr.sliceAt t (.slice (some ad) 0 0) lo hi mx).run P w=.ok (.slice (some (if m.getD 0=l.getD 0 then ad else ad.add (l.getD 0*ei.size))) 0 0) w:=by
       simp[Instr.sliceAt,Instr.slice,aS hu,hb,fP he];refine⟨by split<;>rfl,by omega,by omega⟩
      rw[show h.getD 0-l.getD 0=0 by omega,show m.getD 0-l.getD 0=0 by omega];exact⟨_,run,.gs0 _ _ _ _ _ _ _ _ _ _ hm0⟩
     ·cases hv
    ·cases hv
   | _=>simp at hv
  | arr n=>
   obtain⟨e,ei,hu,he,hsz⟩:=hs;cases r with
   | ip _ β cs c o f hh r=>
    simp only at hv;split at hv
    ·rename_i hle;obtain⟨hl0,hn,mn,hcl,hpos⟩:=hle;injection hv with hv
     subst hv;have hn':h=none:=by simpa using hn
     have mn':m=none:=by simpa using mn
     subst hn' mn';have hb:=iI (P:=P) (w:=w) (isSl:=false) (len:=n) (cap:=n) ol oh om hm (by simp;omega) (by simp) (by simp);simp only[Aas,hl0]at hb;refine⟨.slice (some ⟨c,o,none⟩) n n,?_,?_⟩
     ·have hz:¬n=0:=by omega
      simp[Instr.sliceAt,Instr.sureAddr,aS hu,hb,fP he,Go.Addr.add,hz,Result.andThen]
     ·have e1:(cs.map fun c=>[c]).length=n:=by simp[hcl]
      have e2:(RV ρ ls (.vs β 1 true (cs.map fun c=>[c])) (.slice (some ⟨c,o,none⟩) (cs.map fun c=>[c]).length n)):=by
       refine RV.vs ls β 1 true (cs.map fun c=>[c]) c o n (fun i j=>f i) (by omega) (fun _=>by omega) (fun i l hl=>?_) (fun i l hl j x hx=>?_) (fun i l hl j x hx=>?_)
       ·rw[Aal]at hl;cases hc:cs[i]? with
        | none=>simp[hc]at hl
        | some y=>simp[hc]at hl;subst hl;rfl
       ·rw[Aal]at hl;cases hc:cs[i]? with
        | none=>simp[hc]at hl
        | some y=>
         simp[hc]at hl;subst hl
         match j,hx with
         | 0,hx=>
          obtain⟨arr,g1,g2⟩:=hh i y hc;exact⟨arr,g1,by simpa using g2⟩
         | j+1,hx=>simp at hx
       ·rw[Aal]at hl;cases hc:cs[i]? with
        | none=>simp[hc]at hl
        | some y=>
         simp[hc]at hl;subst hl
         match j,hx with
         | 0,hx=>simp at hx;subst hx;exact r i y hc
         | j+1,hx=>simp at hx
      rw[e1]at e2;exact e2
    ·cases hv
   | _=>simp at hv
end
end Go.AM
namespace Go.AM
section
variable {P:Program} {Γ:bG} {ρ:j9} {ls:List Nat} {s:St} {a:Act} {w:World}
theorem pr.Kw{cs:List AV}{arr:Array Value}(h:kX ρ ls cs arr.toList):pr ρ ls arr 0 cs:=fun i x hx=>by
 have hi:=aL hx;have hl:=h.1;have hr:=h.2 i x hx;simp at hl;rw[fF]at hr;refine⟨arr[i]'(by omega),by simp,?_⟩;simpa[Array.getD,show i<arr.size by omega]using hr
theorem kX.T7{cs:List AV}{arr:Array Value}(h:pr ρ ls arr 0 cs)(hl:cs.length=arr.size):kX ρ ls cs arr.toList:=
 ⟨by simpa using hl,fun i x hx=>by
  obtain⟨y,hy,r⟩:=h i x hx;rw[Aag]at hy;rw[fF];simp[Array.getD_eq_getD_getElem?,hy,r]⟩
theorem kX.bM{cs:List AV}{vs:List Value}(h:kX ρ ls cs vs)(hc:cs.all Go.AM.bM=true)(ls':List Nat):kX ρ ls' cs vs:=
 ⟨h.1,fun i x hx=>(h.2 i x hx).bM (Aao.1 hc x (Aau hx)) ls'⟩
theorem kX.yB{cs:List AV}{vs:List Value}(h:kX ρ ls cs vs)(hc:cs.all cn=true):∀v∈vs,v.oneCell'=true:=fun v hv=>by
 obtain⟨i,hi⟩:=List.mem_iff_getElem?.1 hv;have hlt:=aL hi;have hl:=h.1;have hx:cs[i]? = some (cs[i]'(by omega)):=Aaf _;have hr:=h.2 i _ hx;rw[Aab,hi]at hr;exact hr.yB (Aao.1 hc _ (Aau hx))
theorem kX.append{cs cs':List AV}{vs vs':List Value}(h:kX ρ ls cs vs)(h':kX ρ ls cs' vs'):kX ρ ls (cs++cs') (vs++vs'):=
 ⟨by simp[h.1,h'.1],fun i x hx=>by
  rw[Aab];by_cases hi:i<cs.length
  ·rw[Aae hi]at hx;rw[Aae (by rw[←h.1];exact hi),←Aab];exact h.2 i x hx
  ·rw[Aaj (by omega)]at hx;rw[Aaj (by rw[←h.1];omega),←h.1,←Aab];exact h'.2 _ x hx⟩
theorem kX.take{cs:List AV}{vs:List Value}(h:kX ρ ls cs vs)(n:Nat):kX ρ ls (cs.take n) (vs.take n):=
 ⟨by simp[h.1],fun i x hx=>by
  rw[Aam]at hx;split at hx
  ·rename_i hi;rw[Aab,Aam,if_pos hi,←Aab];exact h.2 i x hx
  ·cases hx⟩
theorem kX.replicate{z:List AV}{vs:List Value}(h:kX ρ ls z vs):∀n,kX ρ ls (List.replicate n z).flatten (List.replicate n vs).flatten
 | 0=>⟨rfl,fun i x hx=>by simp at hx⟩
 | n+1=>by
  simp only[Aaw,Aay];exact h.append (kX.replicate h n)
theorem Jx(l:List Value):∀(k off:Nat) (arr:Array Value),(l.zipIdx k).foldl (fun cs (p:Value×Nat)=>cs.setIfInBounds (off+p.2) p.1) arr=jD arr (off+k) l:=by
 induction l with
 | nil=>intro k off arr;rfl
 | cons v r ih=>
  intro k off arr;simp only[List.zipIdx_cons,List.foldl_cons,jD];rw[ih (k+1) off,AaC]
theorem DP(place:Nat→Option (Nat×Nat)):∀(ps:List (Nat×Nat×AV)) (vs:List (Nat×Value)) (cells:List AV) (arr:Array Value) (res:List AV),
 ps.length=vs.length→(∀(i:Nat) p v,ps[i]? = some p→vs[i]? = some v→place v.1=some (p.1,p.2.1)∧RV ρ ls p.2.2 v.2)→
 kX ρ ls cells arr.toList→mg cells ps=some res→∃arr',Instr.fill place arr vs=some arr'∧kX ρ ls res arr'.toList:=by
 intro ps
 induction ps with
 | nil=>
  intro vs cells arr res hl _ hr hf;cases vs with
  | nil=>simp only[mg,Option.some.injEq]at hf;subst hf;exact⟨arr,rfl,hr⟩
  | cons _ _=>simp at hl
 | cons p r ih=>
  intro vs cells arr res hl hp hr hf;cases vs with
  | nil=>simp at hl
  | cons v vr=>
   obtain⟨off,size,x⟩:=p;obtain⟨i,v⟩:=v;have h0:=hp 0 _ _ rfl rfl;simp only at h0;simp only[mg]at hf;split at hf
   ·rename_i cs hcs;split at hf
    ·rename_i hsz;split at hf
     ·rename_i hle;have hc:=Cm h0.2 hcs;have hlc:=hc.1;have hla:=hr.1;simp at hlc hla;have e:(v.cells.zipIdx.foldl (fun cs (p:Value×Nat)=>cs.setIfInBounds (off+p.2) p.1) arr)=jD arr off v.cells.toList:=by
       rw[←Array.foldl_toList,Array.toList_zipIdx,Jx];rfl
      have hlies:kX ρ ls (c8 cells off cs) (jD arr off v.cells.toList).toList:=by
       refine kX.T7 ?_ (by rw[qk hle,jz];exact hla);have:=(pr.Kw hr).c8 hle (by omega) hc;rwa[Aag]at this
      obtain⟨arr',h1,h2⟩:=ih vr _ (jD arr off v.cells.toList) res (by simpa using hl) (fun j p v hp' hv=>hp (j+1) p v hp' hv) hlies hf;refine⟨arr',?_,h2⟩;simp only[Instr.fill,h0.1];rw[if_neg (by simp;omega)];rw[show(fun(cs:Array Value) (x:Value×Nat)=>match x with|(c,j)=>cs.setIfInBounds (off+j) c)=(fun cs (p:Value×Nat)=>cs.setIfInBounds (off+p.2) p.1) from rfl,e];exact h1
     ·cases hf
    ·cases hf
   ·cases hf
theorem TF.zero{t:TypeId}{ti:TI}(h:TF P t ti)(w:World)(ρ:j9)(ls:List Nat):∃z,(zeroValue t).run P w=.ok z w∧kX ρ ls ti.zero z.cells.toList∧z.cells.size=ti.size:=by
 obtain⟨i,d,z,h1,h2,h3,h4,h5,h6,h7,h8,h9⟩:=h.info;exact⟨z,pW h1 h5,by rw[←h7];exact wy _,h8⟩
theorem Bj(mem:RH ρ ls s.loc s.heap w){T:TypeId}{cs:List AV}{vs:Array Value}(hr:kX ρ ls cs vs.toList)(hc:cs.all bM=true):
 ∃ρ',RH ρ' ls (s.push cs).loc (s.push cs).heap { w with heap:=w.heap.push (.cells vs T (0,0)) }∧ua ρ ls s.heap w ρ' ls (s.push cs).heap { w with heap:=w.heap.push (.cells vs T (0,0)) }∧
  ρ'.m s.heap.length 0=some (w.heap.size,0,vs.size):=by
 have hl:=hr.1;simp at hl;have h:=mem.AX (uq.push w (.cells vs T (0,0))) (.inl (by simp)) (by omega) (pr.Kw (hr.bM hc []));exact⟨_,h.1,h.2,j9.ml _ _ _ _⟩
theorem MU(mem:RH ρ ls s.loc s.heap w){T:TypeId}{cs:List AV}{vs:Array Value}(hr:kX ρ ls cs vs.toList):
 RH ρ (ls++[w.heap.size]) (s.loc++[cs]) s.heap { w with heap:=w.heap.push (.cells vs T (0,0)) }∧ua ρ ls s.heap w ρ (ls++[w.heap.size]) s.heap { w with heap:=w.heap.push (.cells vs T (0,0)) }:=by
 have hl:=hr.1;simp at hl;exact mem.TY (uq.push w (.cells vs T (0,0))) hl (pr.Kw hr)
theorem AQ(n:Nat)(z:Array Value)(sz:Nat)(hz:z.size=sz)(h0:n*sz=0→n=0∨sz=0):
 ((Array.range (n*sz)).map (z[· % z.size]!)).toList=(List.replicate n z.toList).flatten:=by
 subst hz;apply Aaz;intro i;have hlen:(List.replicate n z.toList).flatten.length=n*z.size:=by simp
 by_cases hi:i<n*z.size
 ·have hpos:0<z.size:=by
   rcases Aax z.size with h|h
   ·rw[h]at hi;simp at hi
   ·exact h
  have key:∀n i,i<n*z.size→(List.replicate n z.toList).flatten[i]? = some (z[i % z.size]'(AaE _ hpos)):=by
   intro n
   induction n with
   | zero=>intro i hi;simp at hi
   | succ n ih=>
    intro i hi;rw[Aaw,Aay];by_cases hlt:i<z.size
    ·rw[Aae (by simpa using hlt)];simp[Nat.mod_eq_of_lt hlt,hlt]
    ·rw[Aaj (by simp;omega)];simp only[Array.length_toList];rw[ih (i-z.size) (by rw[Nat.succ_mul]at hi;omega)]
     congr 1
     have:i % z.size=(i-z.size) % z.size:=by rw[Nat.mod_eq_sub_mod (by omega)]
     simp only[this]
  rw[key n i hi];simp[hi,AaE _ hpos]
 ·rw[Aat (by simp;omega),Aat (by rw[hlen];omega)]
end
end Go.AM
namespace Go.AM
section
variable {P:Program} {Γ:bG} {ρ:j9} {ls:List Nat} {s:St} {a:Act} {w:World}
theorem CY(mem:RH ρ ls s.loc s.heap w){x:AV}{xv:Value}(r:RV ρ ls x xv){cs:List AV}{vs:List Value}(hr:kX ρ ls cs vs){s':St}(h:s.store x cs=some s'):
 ∃c o w',xv=.pointer (some ⟨c,o,none⟩)∧(storeCells ⟨c,o,none⟩ vs).run P w=.ok () w'∧s'.env=s.env∧RH ρ ls s'.loc s'.heap w'∧ua ρ ls s.heap w ρ ls s'.heap w':=by
 cases r with
 | lp _ i off c hl=>
  simp only[St.store]at h;cases hL:s.loc[i]? with
  | none=>simp[hL]at h
  | some l=>
   simp only[hL,Aai]at h;split at h
   ·rename_i hle;split at h
    ·rename_i hcell;injection h with h
     subst h;obtain⟨c',arr,T,fr,e1,e2,e3,e4,e5⟩:=mem.lp i l hL;rw[hl]at e1;injection e1 with e1
     subst e1;have hlen:=hr.1;obtain⟨w',hrun,hb⟩:=nU (P:=P) c T fr vs off 0 w arr e2 e3 (by omega) (hr.yB hcell);have hlies:=e5.c8 hle (by omega) hr;rw[Aag]at hlies;have hres:=mem.TG hL hl (l':=c8 l off cs) hb (jz _ _ _) e3 (by rw[qk hle,jz,e4]) hlies;exact⟨c,off,w',rfl,hrun,rfl,hres.1,hres.2⟩
    ·cases h
   ·cases h
 | gp _ b g off c o n hm=>
  simp only[St.store]at h;cases hb:cF s.heap b with
  | none=>simp[hb]at h
  | some e=>
   obtain⟨g',l⟩:=e;simp only[hb,Aai]at h;split at h
   ·rename_i hg;have hg':g'=g:=hg;subst hg';split at h
    ·rename_i hle;split at h
     ·rename_i hcell;injection h with h
      subst h;obtain⟨c',o',n',arr,T,fr,e1,e2,e3,e4,e5,e6⟩:=mem.hp b g' l (fC hb);rw[hm]at e1;injection e1 with e1
      injection e1 with e1 e1'
      injection e1' with e1' e1''
      subst e1 e1' e1'';have hlen:=hr.1;obtain⟨w',hrun,hsb⟩:=nU (P:=P) c T fr vs (o+off) 0 w arr e2 e4 (by omega) (hr.yB (by
       rw[Aao]at *;exact fun x hx=>pa (hcell x hx)))
      have hlies:=e6.c8 hle (by omega) (hr.bM hcell []);have hres:=mem.IH (fC hb) hm (l':=c8 l off cs) hsb (jz _ _ _) e3 e4 (by rw[qk hle];omega) hlies;exact⟨c,o+off,w',rfl,hrun,rfl,hres.1,hres.2⟩
     ·cases h
    ·cases h
   ·cases h
 | _=>simp[St.store]at h
theorem Gm{t:TypeId}{ti:TI}(ht:TF P t ti){c o:Nat}{v:Value}(hsz:v.cells.size=ti.size){w':World}(h:(storeCells ⟨c,o,none⟩ v.cells.toList).run P w=.ok () w'):
 (Instr.storeAt t (.pointer (some ⟨c,o,none⟩)) v).run P w=.ok () w':=by
 simp[Instr.storeAt,Instr.sureAddr,storeVar,fP ht,hsz,h]
theorem C4{n:Int}(h0:0≤n)(h1:n<9223372036854775808):IntKind.i64.wrap n=n:=by
 have e:n % (2 ^ IntKind.i64.bits:Int)=n:=Int.emod_eq_of_lt h0 (by show n<2 ^ 64;omega);unfold IntKind.wrap;simp only[e];rw[if_neg];simp only[Bool.and_eq_true,decide_eq_true_eq,not_and];intro _;show ¬n≥2 ^ 63
 omega
theorem Ng{t e:TypeId}{ei:TI}(hu:P.underlying t=some (.slice e))(he:TF P e ei){k k':IntKind}{n:Int}(h0:0≤n)(hn:n.toNat*(ei.bytes+ei.size+1)≤aU):
 ∃arr:Array Value,(Instr.makeSlice t (.int k n) (.int k' n)).run P w=.ok (.slice (some ⟨w.heap.size,0,none⟩) n.toNat n.toNat) { w with heap:=w.heap.push (.cells arr e (0,0)) }∧
  (∀ρ ls,kX ρ ls (List.replicate n.toNat ei.zero).flatten arr.toList):=by
 obtain⟨i,d,z,h1,h2,h3,h4,h5,h6,h7,h8,h9⟩:=he.info;have hm:aU=1099511627776:=rfl;have hb:n.toNat*ei.bytes≤aU:=Aah (Aad _ (by omega)) hn;have hs:n.toNat*ei.size≤aU:=Aah (Aad _ (by omega)) hn;have h1':n.toNat*1≤aU:=Aah (Aad _ (by omega)) hn;have hlt:n<9223372036854775808:=by omega
 have hwrap:=C4 h0 hlt;have hbytes:(i.bytes:Int)*n≤2 ^ 48:=by
  have:((n.toNat*ei.bytes:Nat):Int)≤1099511627776:=by omega
  rw[h4];have e:(ei.bytes:Int)*n=((n.toNat*ei.bytes:Nat):Int):=by
   rw[AaB,Int.toNat_of_nonneg h0,Int.mul_comm]
  omega
 refine⟨(Array.range (n.toNat*i.size)).map ((if n.toNat*i.size=0 then #[]else z.cells)[· % (if n.toNat*i.size=0 then #[]else z.cells).size]!),?_,?_⟩
 ·have hnn:¬n<0:=by omega
  have hnb:¬(281474976710656:Int)<i.bytes*n:=by omega
  by_cases hz:n.toNat*i.size=0
  ·simp[Instr.makeSlice,aS hu,Go.asInt,asIntOf,run_typeInfo h1,hwrap,hnn,hnb,th h1,hz,newRow]
  ·simp[Instr.makeSlice,aS hu,Go.asInt,asIntOf,run_typeInfo h1,hwrap,hnn,hnb,th h1,hz,newRow,pW h1 h5]
 ·intro ρ ls;have hz':kX ρ ls ei.zero z.cells.toList:=by rw[←h7];exact wy _
  by_cases hz:n.toNat*i.size=0
  ·have hlen:(List.replicate n.toNat ei.zero).flatten=[]:=by
    apply Aaa;have:ei.zero.length=i.size:=by have:=hz'.1;simp at this;omega
    simp[this];simpa using hz
   rw[hlen];simp only[hz];exact⟨by simp,fun i x hx=>by simp at hx⟩
  ·simp only[hz,if_false];rw[AQ n.toNat z.cells i.size (by omega) (fun h=>absurd h hz)];exact hz'.replicate _
theorem MH{t e:TypeId}{ei:TI}(hu:P.underlying t=some (.slice e))(he:TF P e ei){len:Nat}{ps:List (Nat×AV)}{vs:List (Nat×Value)}{cs:List AV}
 (hl:ps.length=vs.length) (hp:∀(i:Nat) p v,ps[i]? = some p→vs[i]? = some v→p.1=v.1∧RV ρ ls p.2 v.2) (hsz:len*ei.size≤16777216)
 (h:mg (List.replicate len ei.zero).flatten (ps.map fun p=>(p.1*ei.size,ei.size,p.2))=some cs):
 ∃arr:Array Value,(Instr.buildSlice t len vs.toArray).run P w=.ok (.slice (some ⟨w.heap.size,0,none⟩) len len) { w with heap:=w.heap.push (.cells arr e (0,0)) }∧kX ρ ls cs arr.toList:=by
 obtain⟨i,d,z,h1,h2,h3,h4,h5,h6,h7,h8,h9⟩:=he.info;have hz':kX ρ ls ei.zero z.cells.toList:=by rw[←h7];exact wy _
 have hzl:ei.zero.length=i.size:=by have:=hz'.1;simp at this;omega
 have hbase:kX ρ ls (List.replicate len ei.zero).flatten ((Array.range (len*i.size)).map ((if len*i.size=0 then #[]else z.cells)[· % (if len*i.size=0 then #[]else z.cells).size]!)).toList:=by
  by_cases hz:len*i.size=0
  ·have hlen:(List.replicate len ei.zero).flatten=[]:=by
    apply Aaa;simp[hzl];simpa using hz
   rw[hlen];simp only[hz];exact⟨by simp,fun i x hx=>by simp at hx⟩
  ·simp only[hz,if_false];rw[AQ len z.cells i.size (by omega) (fun h=>absurd h hz)];exact hz'.replicate _
 obtain⟨arr',hf,hr⟩:=DP (fun k=>some (k*i.size,i.size)) (ps.map fun p=>(p.1*ei.size,ei.size,p.2)) vs _ _ cs (by simpa using hl) (fun j p v hp' hv=>by
  rw[Aal]at hp';cases hq:ps[j]? with
  | none=>simp[hq]at hp'
  | some q=>
   simp[hq]at hp';subst hp';obtain⟨e1,e2⟩:=hp j q v hq hv;exact⟨by simp[e1,h3],e2⟩) hbase h
 refine⟨arr',?_,hr⟩;have hng:¬len*i.size>2 ^ 24:=by rw[h3];omega
 by_cases hz:len*i.size=0
 ·simp only[hz]at hf;simp[Instr.buildSlice,aS hu,th h1,hz,newRow]at hf ⊢;simp[hf]
 ·simp only[hz,if_false]at hf;simp[Instr.buildSlice,aS hu,th h1,hz,hng,newRow,pW h1 h5];simp[hf]
end
end Go.AM
namespace Go.AM
section
variable {P:Program} {Γ:bG} {ρ:j9} {ls:List Nat} {s:St} {a:Act} {w:World}
theorem CV(m:Nat):∀(k c:Nat),c≤2*m+192→Builtin.growBy m k c≤2*m+192
 | 0,c,h=>h
 | k+1,c,h=>by
  unfold Builtin.growBy;split
  ·exact h
  ·exact CV m k _ (by omega)
theorem B0{m c:Nat}(h:c<m):Builtin.nextslicecap m c≤2*m+192:=by
 unfold Builtin.nextslicecap;split
 ·omega
 ·split
  ·omega
  ·exact CV _ _ _ (by omega)
structure Source (P:Program) (w:World) (size:Nat) (y:Value) (n:Nat) (vals:List Value):Prop where
 len:∀w',(Builtin.lenOf y).run P w'=.ok n w'
 cells:∀w',w'.heap=w.heap→(Builtin.firstCells size n y).run P w'=.ok vals.toArray w'
 size:vals.length=n*size
theorem Source.rN{size n cap:Nat}{A:Option Addr}{vals:List Value}(hl:vals.length=n*size)(h0:n≠0→A.isSome)
 (h:∀ad,A=some ad→∀(j:Nat) (u:Value),vals[j]? = some u→w.cell? (ad.add j)=some u):Source P w size (.slice A n cap) n vals:=by
 refine⟨fun w'=>rfl,fun w' hw=>?_,hl⟩;cases A with
 | none=>
  have:n=0:=by
   rcases Aax n with h|h
   ·exact h
   ·have:=h0 (by omega);simp at this
  subst this;have:vals=[]:=Aaa (by simpa using hl);subst this;rfl
 | some ad=>
  have hc:∀(j:Nat) (u:Value),vals[j]? = some u→w'.cell? (ad.add j)=some u:=fun j u hu=>by
   have:=h ad rfl j u hu;simpa[World.cell?,hw]using this
  have:=run_loadCells_list (P:=P) (w:=w') ad vals hc;simp only[Builtin.firstCells];rw[←hl];exact this
theorem Source.To{size:Nat}(sb:ByteArray)(hs:size=1):Source P w size (.string sb) sb.size (sb.data.toList.map fun b=>Value.int .u8 b.toNat):=by
 subst hs;refine⟨fun w'=>rfl,fun w' _=>?_,by simp⟩;have e:sb.extract 0 sb.size=sb:=by simp
 simp[Builtin.firstCells,e];apply Array.ext';simp
theorem TW(mem:RH ρ ls s.loc s.heap w){sz:Nat}{str:Bool}{y:AV}{yv:Value}(r:RV ρ ls y yv){ys:List AV}{n:Nat}(h:iU s sz str y=some ys)(hn:lenOf y=some n):
 ∃vals,Source P w sz yv n vals∧kX ρ ls ys vals:=by
 unfold iU at h;split at h
 ·rename_i sb;cases r;split at h
  ·rename_i h1;injection h with h
   simp only[lenOf,Option.some.injEq]at hn;subst h hn;refine⟨_,.To sb h1,by simp[j7],fun i x hx=>?_⟩;simp only[j7,Aal]at hx;cases hb:sb.data.toList[i]? with
   | none=>simp[hb]at hx
   | some b=>
    simp[hb]at hx;subst hx;rw[Aab,Aal,hb];exact .int _ _ _
  ·cases h
 ·obtain⟨A,cap,vals,rfl,h1,h2,_,h4,h5⟩:=sL mem r h hn;exact⟨vals,.rN h1 h4 h5,h2⟩
 ·cases h
theorem oc{t tx ty e:TypeId}{ei:TI}(hu:P.underlying t=some (.slice e))(he:TF P e ei){d:TypeDesc}(hux:P.underlying tx=some d)(hd:∀k,d≠.int k)
 {A:Option Addr} {sl sc n:Nat} {y:Value} {vals:List Value} (src:Source P w ei.size y n vals) (hfit:sl+n≤sc) {w':World}
 (hst:∀ad,A=some ad→(storeCells (ad.add (sl*ei.size)) vals).run P w=.ok () w') (hnone:A=none→w'=w):
 (Builtin.append_ #[t,tx] ty #[.slice A sl sc,y]).run P w=.ok (.slice A (sl+n) sc) w':=by
 cases A with
 | none=>
  rw[hnone rfl];simp[Builtin.append_,aS hu,fP he,aS hux,src.len,src.cells w rfl,hfit]
 | some ad=>
  simp[Builtin.append_,aS hu,fP he,aS hux,src.len,src.cells w rfl,hfit,hst ad rfl]
theorem uZ{t tx ty e:TypeId}{ei:TI}(hu:P.underlying t=some (.slice e))(he:TF P e ei){d:TypeDesc}(hux:P.underlying tx=some d)(hd:∀k,d≠.int k)
 {A:Option Addr} {sl sc n:Nat} {y:Value} {vals olds:List Value} (src:Source P w ei.size y n vals) (base:Source P w ei.size (.slice A sl sc) sl olds) (hgrow:sc<sl+n)
 (hsz:0<ei.size) (hb:(sl+n)*(ei.size+ei.bytes)≤aU):
 ∃(newCap:Nat) (arr:Array Value) (w':World),(Builtin.append_ #[t,tx] ty #[.slice A sl sc,y]).run P w=.ok (.slice (some ⟨w.heap.size,0,none⟩) (sl+n) newCap) w'∧sl+n≤newCap∧
  arr.size=newCap*ei.size∧uq w (.cells arr e (0,0)) w'∧∃rest,arr.toList=olds++vals++rest:=by
 obtain⟨i,d',z,h1,h2,h3,h4,h5,h6,h7,h8,h9⟩:=he.info;have hm:aU=1099511627776:=rfl;have hbytes:(sl+n)*ei.bytes≤aU:=Aah (Aad _ (by omega)) hb;have hpos:1≤sl+n:=by omega
 have hb1:ei.bytes≤aU:=Aah (by have:=Aac ei.bytes hpos;omega) hbytes;have hcap:Builtin.nextslicecap (sl+n) sc*i.bytes≤281474976710656:=by
  have hnc:=B0 hgrow;rw[h4];have:Builtin.nextslicecap (sl+n) sc*ei.bytes≤(2*(sl+n)+192)*ei.bytes:=Aac _ hnc;have e:(2*(sl+n)+192)*ei.bytes=2*((sl+n)*ei.bytes)+192*ei.bytes:=by rw[Aak,AaD]
  omega
 have hnfit:¬sl+n≤sc:=by omega
 have hncap:¬281474976710656<Builtin.nextslicecap (sl+n) sc*i.bytes:=by omega
 generalize hq:Question.appendCap (sl+n) sc e=q;have hforced:q.forced=false:=by subst hq;rfl
 have hcut:∀x,sl+n≤q.cut x:=by intro x;subst hq;simp[Question.cut]
 generalize hN:q.cut (w.tape w.drawn q)=N;have hN':sl+n≤N:=by rw[←hN];exact hcut _
 refine⟨N,olds.toArray++(vals.toArray++Builtin.zeroCells z.cells (N-(sl+n))),(w.drew).alloc (.cells (olds.toArray++(vals.toArray++Builtin.zeroCells z.cells (N-(sl+n)))) e),?_,hN',?_,?_,(Builtin.zeroCells z.cells (N-(sl+n))).toList,by simp⟩
 ·have hneed:sl+n≤aU:=Aah (by have:=Aad (sl+n) (show 1≤ei.size+ei.bytes by omega);omega) hb;have hmax:¬((sl:Int)+n>9223372036854775807):=by omega
  have hmax':¬((9223372036854775807:Int)<(sl:Int)+n):=by omega
  have e1:=base.cells w.drew rfl;have e2:=src.cells w.drew rfl;simp[Builtin.append_,aS hu,fP he,aS hux,src.len,hnfit,hmax',run_typeInfo h1,hncap,hq,hforced,hN,e1,e2,pW h1 h5,newRow]
 ·simp[Builtin.zeroCells,base.size,src.size,h8,←Aak]
  congr 1;omega
 ·exact⟨(uq.push w _).sz,(uq.push w _).old,(uq.push w _).new,rfl,rfl⟩
theorem KR{t tx ty e:TypeId}{ei:TI}(hu:P.underlying t=some (.slice e))(he:TF P e ei){k kn:IntKind}(hux:P.underlying tx=some (.int k)){n:Nat}(h0:0<n)
 (hsz:0<ei.size) (hb:n*(ei.size+ei.bytes)≤aU):
 ∃(newCap:Nat) (arr:Array Value) (w':World) (vals:List Value),(Builtin.append_ #[t,tx] ty #[.slice none 0 0,.int kn (n:Int)]).run P w=.ok (.slice (some ⟨w.heap.size,0,none⟩) n newCap) w'∧n≤newCap∧
  arr.size=newCap*ei.size∧uq w (.cells arr e (0,0)) w'∧(∃rest,arr.toList=vals++rest)∧∀ρ ls,kX ρ ls (List.replicate n ei.zero).flatten vals:=by
 obtain⟨i,d',z,h1,h2,h3,h4,h5,h6,h7,h8,h9⟩:=he.info;have hm:aU=1099511627776:=rfl;have hbytes:n*ei.bytes≤aU:=Aah (Aad _ (by omega)) hb;have hsize:n*ei.size≤aU:=Aah (Aad _ (by omega)) hb;have hn1:n*1≤aU:=Aah (Aad _ (by omega)) hb;have hgrow:0<0+n:=by omega
 have hcap:Builtin.nextslicecap n 0*i.bytes≤281474976710656:=by
  have hnc:=B0 hgrow;rw[Aag]at hnc;rw[h4];have:Builtin.nextslicecap n 0*ei.bytes≤(2*n+192)*ei.bytes:=Aac _ hnc;have e:(2*n+192)*ei.bytes=2*(n*ei.bytes)+192*ei.bytes:=by rw[Aak,AaD]
  have hb1:ei.bytes≤aU:=Aah (by have:=Aac ei.bytes (show 1≤n by omega);omega) hbytes;omega
 have hwrap:IntKind.i64.wrap (n:Int)=n:=C4 (by omega) (by omega);have hnn:¬((n:Int)<0):=by omega
 have hnb:¬((281474976710656:Int)<(n:Int)*i.bytes):=by
  rw[h4,←AaB];omega
 have hncap:¬281474976710656<Builtin.nextslicecap n 0*i.bytes:=by omega
 have hmax':¬((9223372036854775807:Int)<(n:Int)):=by omega
 have hne:n≠0:=by omega
 have hse:ei.size≠0:=by omega
 have hsi:i.size≠0:=by omega
 generalize hq:Question.appendCap n 0 e=q;have hforced:q.forced=false:=by subst hq;rfl
 have hcut:∀x,n≤q.cut x:=by intro x;subst hq;simp[Question.cut]
 generalize hN:q.cut (w.tape w.drawn q)=N;have hN':n≤N:=by rw[←hN];exact hcut _
 refine⟨N,Builtin.zeroCells z.cells n++Builtin.zeroCells z.cells (N-n),(w.drew).alloc (.cells (Builtin.zeroCells z.cells n++Builtin.zeroCells z.cells (N-n)) e),(Builtin.zeroCells z.cells n).toList,?_,hN',?_,?_,⟨(Builtin.zeroCells z.cells (N-n)).toList,by simp⟩,?_⟩
 ·simp[Builtin.append_,aS hu,fP he,aS hux,Go.asInt,asIntOf,hwrap,hnn,hnb,hne,hse,hsi,hmax',run_typeInfo h1,hncap,hq,hforced,hN,pW h1 h5,newRow,Builtin.firstCells];intro h;exact absurd h (Nat.mul_ne_zero hne hse)
 ·simp[Builtin.zeroCells,h8,←Aak]
  congr 1;omega
 ·exact⟨(uq.push w _).sz,(uq.push w _).old,(uq.push w _).new,rfl,rfl⟩
 ·intro ρ ls;have hz':kX ρ ls ei.zero z.cells.toList:=by rw[←h7];exact wy _
  have:(Builtin.zeroCells z.cells n).toList=(List.replicate n z.cells.toList).flatten:=by
   unfold Builtin.zeroCells;exact AQ n z.cells z.cells.size rfl (fun h=>by
    rcases Nat.mul_eq_zero.1 h with h|h
    ·exact .inl h
    ·exact .inr h)
  rw[this];exact hz'.replicate n
end
end Go.AM
namespace Go.AM
section
variable {P:Program} {Γ:bG} {ρ:j9} {ls:List Nat} {s:St} {a:Act} {w:World}
theorem pr.ofPrefix{cs:List AV}{vs rest:List Value}{arr:Array Value}(h:kX ρ ls cs vs)(e:arr.toList=vs++rest):pr ρ ls arr 0 cs:=fun i x hx=>by
 have hi:=aL hx;have hr:=h.2 i x hx;have hl:=h.1;have:arr.toList[i]? = vs[i]?:=by rw[e,Aae (by omega)]
 rw[Aab,Aaf (by omega)]at hr;refine⟨vs[i]'(by omega),?_,hr⟩;rw[Aag,←Array.getElem?_toList,this,Aaf (by omega)]
theorem Nc(mem:RH ρ ls s.loc s.heap w){sz:Nat}{x:AV}{xv:Value}(r:RV ρ ls x xv){cs:List AV}{n:Nat}(h:s.b6 sz x=some cs)(hn:lenOf x=some n):
 ∃A cap vals,xv=.slice A n cap∧Source P w sz xv n vals∧kX ρ ls cs vals:=by
 obtain⟨A,cap,vals,rfl,h1,h2,_,h4,h5⟩:=sL mem r h hn;exact⟨A,cap,vals,rfl,.rN h1 h4 h5,h2⟩
theorem TH(mem:RH ρ ls s.loc s.heap w){t tx ty e:TypeId}{ei:TI}(hu:P.underlying t=some (.slice e))(he:TF P e ei){d:TypeDesc}(hux:P.underlying tx=some d)(hd:∀k,d≠.int k)
 {x:AV} {xv yv:Value} (rx:RV ρ ls x xv) {ys:List AV} {vals:List Value} {n m:Nat} (src:Source P w ei.size yv n vals) (ry:kX ρ ls ys vals) (hm:lenOf x=some m)
 {v:AV} {s':St} (h:sS s ei.size ei.bytes x ys n m=some (v,s')):
 s'.env=s.env∧∃cv w' ρ',(Builtin.append_ #[t,tx] ty #[xv,yv]).run P w=.ok cv w'∧RV ρ' ls v cv∧RH ρ' ls s'.loc s'.heap w'∧ua ρ ls s.heap w ρ' ls s'.heap w':=by
 unfold sS at h;split at h
 ·cases h
 ·rename_i hsz;split at h
  ·cases h
  ·rename_i hbound;have hpos:0<ei.size:=by omega
   have grow:∀{A:Option Addr} {sl sc:Nat} {olds:List Value} {cs:List AV},xv=.slice A sl sc→sl=m→Source P w ei.size (.slice A sl sc) sl olds→kX ρ ls cs olds→cs.all bM=true→ys.all bM=true→sc<sl+n→
    ∃cv w' ρ',(Builtin.append_ #[t,tx] ty #[xv,yv]).run P w=.ok cv w'∧RV ρ' ls (.gs s.heap.length 0 0 (sl+n) (sl+n) ei.size false) cv∧RH ρ' ls (s.push (cs++ys)).loc (s.push (cs++ys)).heap w'∧ua ρ ls s.heap w ρ' ls (s.push (cs++ys)).heap w':=by
    intro A sl sc olds cs hxv hsl base hcs hc1 hc2 hlt;subst hxv hsl;obtain⟨N,arr,w',hrun,hN,hasz,nb,rest,hrest⟩:=uZ (ty:=ty) hu he hux hd src base hlt hpos (by omega);have hall:kX ρ [] (cs++ys) (olds++vals):=(hcs.bM hc1 []).append (ry.bM hc2 []);have hlen:=hall.1;have hl2:(olds++vals).length=(sl+n)*ei.size:=by simp[base.size,src.size,Aak]
    have hmul:=Aac ei.size hN;have hres:=mem.AX (cs:=cs++ys) nb (.inl (by simp)) (by omega) (pr.ofPrefix hall hrest);exact⟨_,w',_,hrun,.gs _ _ _ _ _ _ _ _ _ 0 arr.size N (j9.ml _ _ _ _) (Aav _) hN (by simp) (by omega),hres.1,hres.2⟩
   cases rx with
   | nils=>
    simp only[lenOf,Option.some.injEq]at hm;subst hm;simp only at h;have base:Source P w ei.size (.slice none 0 0) 0 []:=.rN (by simp) (by simp) (by simp);split at h
    ·rename_i hn;injection h with h
     injection h with h1 h2
     subst h1 h2 hn;have hv:vals=[]:=Aaa (by have:=src.size;simpa using this);refine⟨rfl,_,w,ρ,oc hu he hux hd src (by omega) (by simp) (fun _=>rfl),?_,mem,.refl _ _ _ _⟩;exact .nils _
    ·rename_i hn;split at h
     ·rename_i hc;injection h with h
      injection h with h1 h2
      subst h1 h2;obtain⟨cv,w',ρ',g1,g2,g3,g4⟩:=grow (cs:=[]) rfl rfl base ⟨rfl,fun i x hx=>by simp at hx⟩ rfl hc (by omega);simp only[Aan,Aag]at g2 g3 g4;exact⟨rfl,cv,w',ρ',g1,g2,g3,g4⟩
     ·cases h
   | vs _ β sz' ex xs c o cap' f h1 h2 h3 h4 r=>
    have rx:RV ρ ls (.vs β sz' ex xs) (.slice (some ⟨c,o,none⟩) xs.length cap'):=.vs _ β sz' ex xs c o cap' f h1 h2 h3 h4 r;simp only[lenOf,Option.some.injEq]at hm;subst hm;simp only at h;split at h
    ·rename_i hn;injection h with h
     injection h with e1 e2
     subst e1 e2 hn;have hv:vals=[]:=Aaa (by have:=src.size;simpa using this);subst hv;refine⟨rfl,_,w,ρ,oc hu he hux hd src (by omega) (fun ad _=>rfl) (by simp),rx,mem,.refl _ _ _ _⟩
    ·split at h
     ·rename_i hex;split at h
      ·rename_i hszz;split at h
       ·rename_i hc;split at h
        ·rename_i hc';injection h with h
         injection h with e1 e2
         subst e1 e2;obtain⟨A,cap,olds,e1,hb,hr⟩:=Nc (P:=P) mem rx (sz:=ei.size) (cs:=xs.flatten) (by simp[St.b6,hszz]) rfl;have hcap:=h2 hex;obtain⟨cv,w',ρ',g1,g2,g3,g4⟩:=grow (cs:=xs.flatten) rfl rfl hb hr hc' hc (by omega);exact⟨rfl,cv,w',ρ',g1,g2,g3,g4⟩
        ·cases h
       ·cases h
      ·cases h
     ·cases h
   | vs0 _ β sz' ex ad cap' h2=>
    have rx:RV ρ ls (.vs β sz' ex []) (.slice (some ad) 0 cap'):=.vs0 _ β sz' ex ad cap' h2;simp only[lenOf,Aaq,Option.some.injEq]at hm;subst hm;simp only at h;split at h
    ·rename_i hn;injection h with h
     injection h with e1 e2
     subst e1 e2 hn;have hv:vals=[]:=Aaa (by have:=src.size;simpa using this);subst hv;refine⟨rfl,_,w,ρ,oc hu he hux hd src (by omega) (fun ad _=>rfl) (by simp),rx,mem,.refl _ _ _ _⟩
    ·split at h
     ·rename_i hex;split at h
      ·rename_i hszz;split at h
       ·rename_i hc;split at h
        ·injection h with h
         injection h with e1 e2
         subst e1 e2;have base:Source P w ei.size (.slice (some ad) 0 cap') 0 []:=.rN (by simp) (by simp) (by simp);have hcap:=h2 hex;obtain⟨cv,w',ρ',g1,g2,g3,g4⟩:=grow (cs:=[]) rfl rfl base ⟨rfl,fun i x hx=>by simp at hx⟩ rfl hc (by omega);simp only[Aan,Aag]at g2 g3 g4;simp only[AaA,Aan,Aag];exact⟨rfl,cv,w',ρ',g1,g2,g3,g4⟩
        ·cases h
       ·cases h
      ·cases h
     ·cases h
   | vsn _ β sz' ex=>
    have rx:RV ρ ls (.vs β sz' ex []) (.slice none 0 0):=.vsn _ β sz' ex;simp only[lenOf,Aaq,Option.some.injEq]at hm;subst hm;simp only at h;split at h
    ·rename_i hn;injection h with h
     injection h with e1 e2
     subst e1 e2 hn;have hv:vals=[]:=Aaa (by have:=src.size;simpa using this);subst hv;refine⟨rfl,_,w,ρ,oc hu he hux hd src (by omega) (fun ad _=>rfl) (by simp),rx,mem,.refl _ _ _ _⟩
    ·split at h
     ·rename_i hex;split at h
      ·rename_i hszz;split at h
       ·rename_i hc;split at h
        ·injection h with h
         injection h with e1 e2
         subst e1 e2;have base:Source P w ei.size (.slice none 0 0) 0 []:=.rN (by simp) (by simp) (by simp);obtain⟨cv,w',ρ',g1,g2,g3,g4⟩:=grow (cs:=[]) rfl rfl base ⟨rfl,fun i x hx=>by simp at hx⟩ rfl hc (by omega);simp only[Aan,Aag]at g2 g3 g4;simp only[AaA,Aan,Aag];exact⟨rfl,cv,w',ρ',g1,g2,g3,g4⟩
        ·cases h
       ·cases h
      ·cases h
     ·cases h
   | gs _ b g off len cap sz' ex c o N cap' hm0 h1 h2 h3 h4=>
    have rx:RV ρ ls (.gs b g off len cap sz' ex) (.slice (some ⟨c,o+off,none⟩) len cap'):=.gs _ b g off len cap sz' ex c o N cap' hm0 h1 h2 h3 h4;simp only[lenOf,Option.some.injEq]at hm;subst hm;simp only at h;cases hb:cF s.heap b with
    | none=>simp[hb]at h
    | some e0=>
     obtain⟨g',l⟩:=e0;simp only[hb,Aai]at h;split at h
     ·rename_i hg;have hg':g'=g:=hg;subst hg';split at h
      ·rename_i hszz;subst hszz;split at h
       ·rename_i hc;obtain⟨c',o',n',arr,T,fr,q1,q2,q3,q4,q5,q6⟩:=mem.hp b g' l (fC hb);rw[hm0]at q1;injection q1 with q1
        injection q1 with q1 q1'
        injection q1' with q1' q1''
        subst q1 q1' q1'';have hyl:=ry.1;have hvl:=src.size;have hcell:=ry.yB (by rw[Aao]at *;exact fun x hx=>pa (hc x hx));split at h
        ·rename_i hfit;split at h
         ·rename_i hin;injection h with h
          injection h with e1 e2
          subst e1 e2;have hmul:(len+n)*ei.size=len*ei.size+n*ei.size:=Aak _ _ _;obtain⟨w',hrun,hsb⟩:=nU (P:=P) c T fr vals (o+off+len*ei.size) 0 w arr q2 q4 (by omega) hcell;have hle:off+len*ei.size+ys.length≤l.length:=by omega
          have hlies:=q6.c8 (cs:=ys) (off:=off+len*ei.size) hle (by omega) (ry.bM hc []);rw[show o+(off+len*ei.size)=o+off+len*ei.size+0 from by omega]at hlies;have hres:=mem.IH (fC hb) hm0 (l':=c8 l (off+len*ei.size) ys) hsb (jz _ _ _) q3 q4 (by rw[qk hle];omega) hlies;refine⟨rfl,_,w',ρ,oc hu he hux hd src (show len+n≤cap' by omega) (fun ad had=>?_) (by simp),?_,hres.1,hres.2⟩
          ·injection had with had
           subst had;rw[kO];exact hrun
          ·exact .gs _ _ _ _ _ _ _ _ c o N cap' hm0 hfit h2 h3 h4
         ·cases h
        ·rename_i hnfit;cases hsub:sub l off (len*ei.size)with
         | none=>simp[hsub]at h
         | some xs=>
          simp only[hsub,Aap,Option.some.injEq,Prod.mk.injEq]at h;obtain⟨e1,e2⟩:=h;subst e1 e2;obtain⟨s1,s2,s3⟩:=rM hsub;by_cases hcf:len+n≤cap'
          ·-- in place
           have hmul:(len+n)*ei.size=len*ei.size+n*ei.size:=Aak _ _ _;have hcm:=Aac ei.size hcf;obtain⟨w',hrun,hsb⟩:=nU (P:=P) c T fr vals (o+off+len*ei.size) 0 w arr q2 q4 (by omega) hcell;have hlies:pr ρ [] (jD arr (o+off+len*ei.size+0) vals) (o+off) (xs++ys):=by
            intro i x hx;rw[yD vals arr _ _ (by omega)];by_cases hi:i<xs.length
            ·rw[Aae hi]at hx;rw[if_neg (by omega)];rw[s3 i (by omega)]at hx;obtain⟨y,hy,r⟩:=q6 _ x hx;exact⟨y,by rw[←hy];congr 1;omega,r⟩
            ·rw[Aaj (by omega)]at hx;have hlt:=aL hx;rw[if_pos (by omega)];have hr:=(ry.bM hc []).2 _ x hx;rw[Aab,Aaf (by omega)]at hr;refine⟨vals[i-xs.length]'(by omega),?_,hr⟩;rw[show o+off+i-(o+off+len*ei.size+0)=i-xs.length from by omega,Aaf (by omega)]
           have hres:=mem.K2 (c':=c) (o':=o+off) (l':=xs++ys) (fC hb) hm0 (.inl ⟨rfl,hsb.sz⟩) (fun x hx hne=>hsb.ne x hne) hsb.eq (by unfold kH at *;rw[jz];exact q4)
            (by rw[jz];simp;omega) hlies hsb.os hsb.out
           refine⟨rfl,_,w',_,oc hu he hux hd src hcf (fun ad had=>?_) (by simp),?_,hres.1,hres.2⟩
           ·injection had with had
            subst had;rw[kO];exact hrun
           ·refine .gs _ _ _ 0 _ _ _ _ c (o+off) _ cap' (j9.ml _ _ _ _) (Aav _) hcf (by simp) ?_;rw[jz];omega
          ·have hlm:len*ei.size≤l.length-off:=by omega
           have hxs:kX ρ [] xs ((arr.toList.drop (o+off)).take (len*ei.size)):=by
            refine⟨by simp;omega,fun i x hx=>?_⟩;have hi:=aL hx;rw[s3 i (by omega)]at hx;obtain⟨y,hy,r⟩:=q6 _ x hx;rw[Aab,Aam,if_pos (by omega),Aar];rw[show arr.toList[o+off+i]? = some y from by rw[Array.getElem?_toList,←hy];congr 1;omega];exact r
           have hbase:Source P w ei.size (.slice (some ⟨c,o+off,none⟩) len cap') len ((arr.toList.drop (o+off)).take (len*ei.size)):=by
            refine .rN (by simp;omega) (by simp) ?_;intro ad had j u hu;injection had with had
            subst had;rw[kO,cell_of q2];have hj:=aL hu;rw[Aam,if_pos (by simp at hj;omega),Aar]at hu;simpa using hu
           generalize holds:(arr.toList.drop (o+off)).take (len*ei.size)=olds at hxs hbase;obtain⟨N',arr',w',hrun,hN,hasz,nb,rest,hrest⟩:=uZ (ty:=ty) hu he hux hd src hbase (by omega) hpos (by omega);have hall:kX ρ [] (xs++ys) (olds++vals):=hxs.append (ry.bM hc []);have hlen:=hall.1;have hl2:(olds++vals).length=(len+n)*ei.size:=by simp[hbase.size,src.size,Aak]
           have hmul:=Aac ei.size hN;have hres:=mem.K2 (c':=w.heap.size) (o':=0) (l':=xs++ys) (fC hb) hm0 (.inr ⟨rfl,nb.sz⟩) (fun x hx hne=>nb.old x hx) nb.new (.inl (by simp)) (by omega) (pr.ofPrefix hall hrest) nb.os nb.out;exact⟨rfl,_,w',_,hrun,.gs _ _ _ 0 _ _ _ _ _ 0 arr'.size N' (j9.ml _ _ _ _) (Aav _) hN (by simp) (by omega),hres.1,hres.2⟩
       ·cases h
      ·cases h
     ·cases h
   | gs0 _ b g off sz' ex c o N ad hm0=>
    simp only[lenOf,Option.some.injEq]at hm;subst hm;simp only at h;cases hb:cF s.heap b with
    | none=>simp[hb]at h
    | some e0=>
     obtain⟨g',l⟩:=e0;simp only[hb,Aai]at h;split at h
     ·rename_i hg;have hg':g'=g:=hg;subst hg';split at h
      ·rename_i hszz;subst hszz;split at h
       ·rename_i hc;obtain⟨c',o',n',arr,T,fr,q1,q2,q3,q4,q5,q6⟩:=mem.hp b g' l (fC hb);rw[hm0]at q1;injection q1 with q1
        injection q1 with q1 q1'
        injection q1' with q1' q1''
        subst q1 q1' q1'';have base:Source P w ei.size (.slice (some ad) 0 0) 0 []:=.rN (by simp) (by simp) (by simp);split at h
        ·rename_i hfit;split at h
         ·rename_i hin;injection h with h
          injection h with e1 e2
          subst e1 e2;have hn:n=0:=by omega
          subst hn;have hv:vals=[]:=Aaa (by have:=src.size;simpa using this);subst hv;have hys:ys=[]:=Aaa (by have:=ry.1;simpa using this);subst hys;have hover:c8 l (off+0*ei.size) []=l:=by simp[c8]
          have hset:s.heap.set b (some (g',l))=s.heap:=by
           apply Aaz;intro i;by_cases hi:b=i
           ·subst hi;rw[List.getElem?_set_self (aL (fC hb)),fC hb]
           ·rw[List.getElem?_set_ne hi]
          refine⟨rfl,_,w,ρ,oc hu he hux hd src (by omega) (fun ad _=>rfl) (by simp),.gs0 _ _ _ _ _ _ _ _ _ _ hm0,?_,?_⟩
          ·simp only[hover,hset];exact mem
          ·simp only[hover,hset];exact .refl _ _ _ _
         ·cases h
        ·rename_i hnfit;cases hsub:sub l off (0*ei.size)with
         | none=>rw[hsub]at h;cases h
         | some xs=>
          rw[hsub]at h;simp only[Aap,Option.some.injEq,Prod.mk.injEq]at h;obtain⟨e1,e2⟩:=h;subst e1 e2;obtain⟨s1,s2,s3⟩:=rM hsub;have hxs:xs=[]:=Aaa (by simpa using s2);subst hxs;obtain⟨N',arr',w',hrun,hN,hasz,nb,rest,hrest⟩:=uZ (ty:=ty) hu he hux hd src base (by omega) hpos (by omega);have hall:kX ρ [] ([]++ys) ([]++vals):=by simpa using ry.bM hc []
          have hlen:=hall.1;have hl2:=src.size;have hmul:=Aac ei.size hN;have hres:=mem.K2 (c':=w.heap.size) (o':=0) (l':=[]++ys) (fC hb) hm0 (.inr ⟨rfl,nb.sz⟩) (fun x hx hne=>nb.old x hx) nb.new (.inl (by simp)) (by simp at *;omega) (pr.ofPrefix hall hrest) nb.os nb.out;exact⟨rfl,_,w',_,hrun,.gs _ _ _ 0 _ _ _ _ _ 0 arr'.size N' (j9.ml _ _ _ _) (Aav _) hN (by simp) (by omega),hres.1,hres.2⟩
       ·cases h
      ·cases h
     ·cases h
   | _=>simp[lenOf]at hm<;>simp at h
end
end Go.AM
