import Derived.Test.YtolciaflplefcaaGreatR3VR
import Derived.Test.YtolciaflplefcaaGreatAmG10
import Derived.Test.YtolciaflplefcaaGreatR6G15
import Derived.Test.YtolciaflplefcaaGreatR6G13
set_option linter.unusedVariables false
set_option linter.unusedSimpArgs false
open Nat renaming reduceAdd→Aaa,reduceBEq→Aab,le_refl→Aas,lt_irrefl→Aat
open List renaming getElem?_append_left→Aac,nodup_append→Aad,length_append→Aae,mem_append→Aaf,length_cons→Aag,length_nil→Aah,mem_singleton→Aai,length_map→Aaj,all_cons→Aak,all_nil→Aal,mem_append_left→Aam,getD_eq_getElem?_getD→Aan,mem_or_eq_of_mem_set→Aao,map_append→Aaq,mem_append_right→Aar,length_take→Aau,getElem_set→Aav,getElem_mem→Aaw,nil_append→Aax,mem_cons→Aay,all→Aaz
open Bool renaming and_eq_true→Aap
namespace Go.Proofs.YtolciaflplefcaaGreat
open Go.AM
variable {Γ:bG}
def LI:C:=(.seq (.regD vT vS) (.seq (.reg [mF 36 1 4,mL 37 1 36,mF 38 0 3,mS 1 38 37]) (.block 0 (.seq (.reg [mF 40 0 6,mL 41 1 40,mI 42 .eql 41 1,mV 39 42]) (.cond (.t 39) (.seq (.reg [mV 43 0,⟨(some 44),none,.nilchk (.t 43)⟩,mF 45 2 44,mL 46 1 45,mN 47 46,mI 48 .lss 47 60]) (.cond (.t 48) (.seq (.regD vW wb) (.reg [mT 5 true])) .skip)) (.seq (.reg [mF 60 0 6,mL 61 1 60,mI 62 .eql 61 3,mV 59 62]) (.cond (.t 59) (.reg [mV 63 0,mG 64 7 3,mF 65 8 6,mL 66 1 65,mF 67 9 6,mL 68 1 67,mC 69 Fn.Pp [.t 63,.t 64,.t 66,.t 68,.c (.int .i64 0)],mV 5 69]) (.seq (.reg [mF 71 0 6,mL 72 1 71,mI 73 .eql 72 2,mV 74 73,⟨(some 75),(some (3,true)),.fld 3 (.t 6)⟩,⟨(some 76),(some (3,true)),.load 1 false (.t 75)⟩,⟨(some 77),(some (3,true)),.bin .eql (.num) (.t 76) (.c (.int .i64 3))⟩,⟨(some 78),none,.pick (.t 74) (.t 77) (.c (.bool false))⟩,mV 70 78]) (.cond (.t 70) (.seq (.reg [mV 79 0,mG 80 7 3,mF 81 8 6,mL 82 1 81,mF 83 9 6,mL 84 1 83,mC 85 Fn.Pp [.t 79,.t 80,.t 82,.c (.int .i64 0),.t 84],mV 5 85]) (.seq (.reg [mV 86 5]) (.cond (.t 86) (.regD wH wi) .skip))) (.seq (.reg [mF 106 0 6,mL 107 1 106,mI 108 .eql 107 2,mV 109 108,⟨(some 110),(some (3,true)),.fld 3 (.t 6)⟩,⟨(some 111),(some (3,true)),.load 1 false (.t 110)⟩,⟨(some 112),(some (3,true)),.bin .neq (.num) (.t 111) (.c (.int .i64 2))⟩,⟨(some 113),none,.pick (.t 109) (.t 112) (.c (.bool false))⟩,mV 105 113]) (.cond (.t 105) (.seq (.reg [mF 114 6 6,mL 115 1 114,mN 116 115,mI 117 .lss 116 40]) (.cond (.t 117) (.seq (.regD wz wc) (.reg [mT 5 true])) .skip)) .skip)))))))))))
def KL:C:=(.seq (.regD vZ wg) (.cond (.t 27) (LI) .skip))
theorem M8:K7=.seq (.regD vP vY) (.seq (.reg [mT 5 false]) (.seq (KL) (.seq (.reg [mV 131 5,mU 132 131]) (.cond (.t 132) (.regD vO wI) .skip)))):=rfl
theorem Iu{P:Program}{Θ:ub}{Γ:bG}{gl:Gl}{a b:C}{Q:AE→St→Prop}{s:St}(R:St→Prop)(h1:aw P Θ Γ gl a (GQ R Q) s)(h2:∀s,R s→aw P Θ Γ gl b Q s):aw P Θ Γ gl a (nt (aw P Θ Γ gl b Q) Q) s:=BN R h1 h2
set_option maxHeartbeats 8000000 in
set_option maxRecDepth 100000 in
theorem aad{n:Nat}(hD:Ft Γ n):Ft Γ (n+1):=by
  intro v s H b f am fs hmu0 hvi hs hw a os ns ds
  have hmu:mJ v≤n:=by omega
  clear hmu0
  obtain⟨wE,w2,wL,w4,fE,f2,fL,f4,rfl,o⟩:=a
  obtain⟨wa,rfl,oa⟩:=ku os
  have hE:v.entities.length≤1048576:=by have:=hvi.fH;omega
  have hb:=o.hb
  have bf:=o.bf
  have blt:=o.blt
  have vlt:=o.lt
  have cb:=VO.Cp hb
  obtain⟨a1,a2,a3,a4⟩:=o.oE.cell
  obtain⟨b1,b2,b3,b4⟩:=o.o2.cell
  obtain⟨c1,c2,c3,c4⟩:=o.oL.cell
  obtain⟨d1,d2,d3,d4⟩:=o.o4.cell
  obtain⟨g1,g2,g3,g4⟩:=oa.cell
  obtain⟨_,lE⟩:=dc o.oE
  obtain⟨_,l2⟩:=dc o.o2
  rw[Aaj]at lE l2
  refine kcG_e (aC aG mixed [] _ _ _ ?_)
  rw[TX]
  unfold KP
  simp only[au,Aaa,Aab,kf,du,dF,dz,dK,dE,dy,dR,bC,g1,g2,g3]
  rw[M8]
  obtain⟨y,hy⟩:∃y,y=pC v s:=⟨_,rfl⟩
  have hy':cO v ⟨1,s.target⟩=y:=by rw[hy];rfl
  obtain⟨R1,hR1⟩:∃R:St→Prop,R=fun zst=>∃g:Nat→AV,zst=⟨(List.range 138).map g,([]:List (List AV))++[[.int .i64 s.target,.str s.name,wa,.int .i64 s.result,.int .i64 s.tag.vat,.int .i64 s.tag.entity,.int .i64 s.tag.seq]]++[[.int .i64 y.kind,.int .i64 y.n]],H⟩∧(g 0=.gp b 0 0∧g 3=(.lp ([]:List (List AV)).length 0)∧g 4=(.lp (([]:List (List AV)).length+1) 0)):=⟨_,rfl⟩
  refine BN R1 ?_ ?_
  · simp only[au,Aaa,Aab,kf,du,dF,dz,dK,dE,dy,dR,bC,cb,a1,a2,a3,b1,b2,b3,c1,c2,c3,d1,d2,d3,g1,g2,g3,jt]
    repeat' (first
      | (guard_target =~ Mem _ _;first|exact Mem.loc ⟨_,([]:List (List AV))++[_],_⟩ _ [_]|exact Mem.loc ⟨_,([]:List (List AV))++[_]++[_],_⟩ _ [_]|exact eg.mem _ _ _)
      | (guard_target =~ jB _ _ _;first|exact gI rfl|exact jZ (L':=[_]) rfl)
      | (guard_target =~ al _ _ Fn.Ts _ _ _
         refine al.val (by simp only[EO]) (Az _ _) ?_
         simp only[au,Aaa,Aab,kf,du,dF,dz,dK,dE,dy,dR,bC,an.c,cb,a1,a2,a3,b1,b2,b3,c1,c2,c3,d1,d2,d3,g1,g2,g3,jt])
      | (guard_target =~ al _ _ Fn.El _ _ _
         refine al.fk (by simp only[EO,a3,b3,c3,d3]) (aI (aM.fk (ar.bO true v) o.own) (aI (.same _) aZ)) (fun h=>ux true v hE ⟨1,s.target⟩ h) (.agg _ (by intro z hz;simp only[an.c,Aay,List.not_mem_nil,or_false]at hz;rcases hz with rfl|rfl<;>exact .int _ _)) ?_
         rw[hy']
         simp only[au,Aaa,Aab,kf,du,dF,dz,dK,dE,dy,dR,bC,an.c,cb,a1,a2,a3,b1,b2,b3,c1,c2,c3,d1,d2,d3,g1,g2,g3,jt])
      | (rw[hR1];exact⟨qv _,rA rfl,⟨rfl,rfl,rfl⟩⟩)
      | refine And.intro ?_ ?_)
  intro zst hzst
  rw[hR1]at hzst
  clear hR1
  obtain⟨g,rfl,⟨eg0,eg3,eg4⟩⟩:=hzst
  rw[show(List.range 138).map g=g 0::g 1::g 2::g 3::g 4::g 5::g 6::g 7::g 8::g 9::g 10::g 11::g 12::g 13::g 14::g 15::g 16::g 17::g 18::g 19::g 20::g 21::g 22::g 23::g 24::g 25::g 26::g 27::g 28::g 29::g 30::g 31::g 32::g 33::g 34::g 35::g 36::g 37::g 38::g 39::g 40::g 41::g 42::g 43::g 44::g 45::g 46::g 47::g 48::g 49::g 50::g 51::g 52::g 53::g 54::g 55::g 56::g 57::g 58::g 59::g 60::g 61::g 62::g 63::g 64::g 65::g 66::g 67::g 68::g 69::g 70::g 71::g 72::g 73::g 74::g 75::g 76::g 77::g 78::g 79::g 80::g 81::g 82::g 83::g 84::g 85::g 86::g 87::g 88::g 89::g 90::g 91::g 92::g 93::g 94::g 95::g 96::g 97::g 98::g 99::g 100::g 101::g 102::g 103::g 104::g 105::g 106::g 107::g 108::g 109::g 110::g 111::g 112::g 113::g 114::g 115::g 116::g 117::g 118::g 119::g 120::g 121::g 122::g 123::g 124::g 125::g 126::g 127::g 128::g 129::g 130::g 131::g 132::g 133::g 134::g 135::g 136::g 137::[] from rfl]
  simp only[eg0,eg3,eg4]
  simp only[au,Aaa,Aab,kf,du,dF,dz,dK,dE,dy,dR,bC]
  obtain⟨F,hF⟩:∃F:Nat→Prop,F=fun c=>c∈dh fE f2 fL f4∨c∈fs:=⟨_,rfl⟩
  obtain⟨R2,hR2⟩:∃R:St→Prop,R=fun zst=>∃ok H' tt X,∃g:Nat→AV,zst=⟨(List.range 138).map g,([]:List (List AV))++([.int .i64 tt,.str s.name,wa,.int .i64 s.result,.int .i64 s.tag.vat,.int .i64 s.tag.entity,.int .i64 s.tag.seq]::X),H'⟩∧(g 0=.gp b 0 0∧g 3=(.lp ([]:List (List AV)).length 0)∧g 5=.bool ok)∧((ok=true∧e9 H b F H' (aT (n+1) v s))∨(ok=false∧e9 H b F H' v∧aT (n+1) v s=dD (aT n) v s.result bd)):=⟨_,rfl⟩
  refine Iu R2 ?_ ?_
  · unfold KL
    have upv:e9 H b F H v:=e9.refl o.at fun c hc=>by rw[hF];exact .inl hc
    cases e1:(decide (y.kind=1) && bB y.n v.entities.length)
    · have ef:aT (n+1) v s=dD (aT n) v s.result bd:=by rw[aT,←hy,if_neg (by rw[e1];simp)]
      by_cases q1:y.kind=1
      · have e2:bB y.n v.entities.length=false:=by rw[aR q1]at e1;simpa using e1
        simp only[au,Aaa,Aab,kf,du,dF,dz,dK,dE,dy,dR,bC,cb,a1,a2,a3,b1,b2,b3,c1,c2,c3,d1,d2,d3,g1,g2,g3,lE,l2,ag,ae,jt,aR q1]
        refine al.val (by simp only[EO]) (gQ _ _ _ _) ?_
        rw[fG _ hE,e2]
        simp only[au,Aaa,Aab,kf,du,dF,dz,dK,dE,dy,dR,bC,cb,a1,a2,a3,b1,b2,b3,c1,c2,c3,d1,d2,d3,g1,g2,g3,lE,l2,ag,ae,jt]
        (rw[hR2];exact⟨false,H,s.target,[[.int .i64 y.kind,.int .i64 y.n]],qv _,rA rfl,⟨rfl,rfl,rfl⟩,.inr ⟨rfl,upv,ef⟩⟩)
      · simp only[au,Aaa,Aab,kf,du,dF,dz,dK,dE,dy,dR,bC,cb,a1,a2,a3,b1,b2,b3,c1,c2,c3,d1,d2,d3,g1,g2,g3,lE,l2,ag,ae,jt,aW q1]
        (rw[hR2];exact⟨false,H,s.target,[[.int .i64 y.kind,.int .i64 y.n]],qv _,rA rfl,⟨rfl,rfl,rfl⟩,.inr ⟨rfl,upv,ef⟩⟩)
    have e1':=Bool.and_eq_true_iff.1 e1
    have q1:y.kind=1:=by simpa using e1'.1
    have e2:=e1'.2
    obtain⟨k,hk,ek,ek2,eA⟩:=cL e2
    obtain⟨r,hr⟩:∃r,r=aD v y.n:=⟨_,rfl⟩
    have eD:=aT.eq_2 v s n
    rw[←hy,if_pos e1,←hr]at eD
    rw[←hr]at eA
    obtain⟨bR,gR,nR,row,fR,iR,rR,lR,oR,nfR,sR,bmR,bnR,wrR⟩:=o.jY hk
    rw[←eA]at oR
    obtain⟨wS,wQ,wA,fS,fQ,fA,rfl,rfl,oS,oQ,oA⟩:=c5 oR
    obtain⟨x1,x2,x3,x4⟩:=oS.cell
    obtain⟨x5,x6,x7,x8⟩:=oQ.cell
    obtain⟨x9,xa,xb,xc⟩:=oA.cell
    obtain⟨_,lQ⟩:=dc oQ
    rw[Aaj]at lQ
    have ost:aM H [.int .i64 y.n,.str s.name,wa,.int .i64 s.result,.int .i64 s.tag.vat,.int .i64 s.tag.entity,.int .i64 s.tag.seq] (nC v s).cd fs:=by
      have:=tJ (s:=nC v s) oa
      rw[show(nC v s).target=y.n by rw[hy];rfl]at this
      exact this
    simp only[au,Aaa,Aab,kf,du,dF,dz,dK,dE,dy,dR,bC,cb,a1,a2,a3,b1,b2,b3,c1,c2,c3,d1,d2,d3,g1,g2,g3,lE,l2,ag,ae,jt,aR q1]
    refine al.val (by simp only[EO]) (gQ _ _ _ _) ?_
    rw[fG _ hE,e2]
    simp only[au,Aaa,Aab,kf,du,dF,dz,dK,dE,dy,dR,bC,cb,a1,a2,a3,b1,b2,b3,c1,c2,c3,d1,d2,d3,g1,g2,g3,lE,l2,ag,ae,jt]
    unfold LI
    rw[ek]
    simp only[au,Aaa,Aab,kf,du,dF,dz,dK,dE,dy,dR,bC,cb,a1,a2,a3,b1,b2,b3,c1,c2,c3,d1,d2,d3,g1,g2,g3,lE,l2,ag,ae,jt,iR,rR,x1,x2,x3,x5,x6,x7,x9,xa,xb,lQ]
    refine⟨Mem.loc ⟨_,([]:List (List AV))++[_,_],_⟩ _ [_],?_⟩
    rw[ek]at ost
    by_cases k1:r.kind=1
    · rw[if_pos k1]at eD
      simp only[au,Aaa,Aab,kf,du,dF,dz,dK,dE,dy,dR,bC,cb,a1,a2,a3,b1,b2,b3,c1,c2,c3,d1,d2,d3,g1,g2,g3,lE,l2,ag,ae,jt,iR,rR,x1,x2,x3,x5,x6,x7,x9,xa,xb,lQ,aR k1]
      by_cases t60:v.loop.length<60
      rotate_left
      · rw[if_neg t60]at eD
        simp only[au,Aaa,Aab,kf,du,dF,dz,dK,dE,dy,dR,bC,cb,a1,a2,a3,b1,b2,b3,c1,c2,c3,d1,d2,d3,g1,g2,g3,lE,l2,ag,ae,jt,iR,rR,x1,x2,x3,x5,x6,x7,x9,xa,xb,lQ,aW (show ¬((v.loop.length:Int)<60)by omega)]
        (rw[hR2];exact⟨false,H,(k:Int),[[.int .i64 y.kind,.int .i64 (k:Int)],_],qv _,rA rfl,⟨rfl,rfl,rfl⟩,.inr ⟨rfl,upv,eD⟩⟩)
      · rw[if_pos t60]at eD
        have nd2:(f2++fs).Nodup:=Aad.2 ⟨o.n2,ns,fun x hx y hy e=>(ds y hy).1 (aO.2 (.inr (.inl (e▸hx))))⟩
        obtain⟨v',H1,f2',ea,o',nd',hf',hl',hm'⟩:=df (bytes:=80) o.o2 nd2 (by omega) rfl ost (by simp only[Aaj,aU];omega)
        obtain⟨j1,j2,j3,j4⟩:=o'.cell
        have hb1:cF H1 b=some (0,[.int .i64 v.id,wE,w2,wL,w4]):=by rw[bc (hf' b o.b2 blt)];exact hb
        obtain⟨H2,s2,hb2,l2',r2⟩:=xB hb1 (i:=2) (w:=v') (by simp) j3
        simp only[au,Aaa,Aab,kf,du,dF,dz,dK,dE,dy,dR,bC,cb,a1,a2,a3,b1,b2,b3,c1,c2,c3,d1,d2,d3,g1,g2,g3,lE,l2,ag,ae,jt,iR,rR,x1,x2,x3,x5,x6,x7,x9,xa,xb,lQ,EA,aR (show((v.loop.length:Int)<60)by omega),ea,j1,j2,j3,s2]
        repeat' (first
          | (guard_target =~ Mem _ _;first|exact Mem.loc ⟨_,([]:List (List AV))++[_],_⟩ _ [_]|exact Mem.heap ⟨_,_,_⟩ _ _)
          | (guard_target =~ jB _ _ _;first|exact gI rfl|exact jZ (L':=[_]) rfl)
          | refine And.intro ?_ ?_)
        have o2:=o.ZS (G:=fs) (l':=v.loop++[nC v s]) (f2':=f2') hb2 ((by rw[Aaq];exact o':b9 H1 v' (.sl 7 ((v.loop++[nC v s]).map aK.cd)) f2').frame fun c hc=>r2 c (fun e=>by
          subst e
          rcases hm' c hc with g|g|g
          · exact o.b2 g
          · exact(ds c g).2 rfl
          · omega)) nd' hm' ds (by omega) (fun c h1 h2 h3 h4=>by rw[r2 c h3,hf' c h1 h4])
        have fin:e9 H b F H2 { v with loop:=v.loop++[nC v s] }:=o2.up (by omega) (fun c hc=>by
          rw[hF]
          rcases aO.1 hc with g|g|g|g
          · exact .inl (.inl (aO.2 (.inl g)))
          · rcases hm' c g with q|q|q
            · exact .inl (.inl (aO.2 (.inr (.inl q))))
            · exact .inl (.inr q)
            · exact .inr q
          · exact .inl (.inl (aO.2 (.inr (.inr (.inl g)))))
          · exact .inl (.inl (aO.2 (.inr (.inr (.inr g)))))) (fun c h1 h2 h3=>by rw[hF]at h1;rw[r2 c h2,hf' c (fun h=>h1 (.inl (aO.2 (.inr (.inl h))))) h3])
        rw[←eD]at fin
        (rw[hR2];exact⟨true,H2,(k:Int),[[.int .i64 y.kind,.int .i64 (k:Int)],_],qv _,rA rfl,⟨rfl,rfl,rfl⟩,.inl ⟨rfl,fin⟩⟩)
    rw[if_neg k1]at eD
    by_cases k3:r.kind=3
    · rw[if_pos k3]at eD
      simp only[au,Aaa,Aab,kf,du,dF,dz,dK,dE,dy,dR,bC,cb,a1,a2,a3,b1,b2,b3,c1,c2,c3,d1,d2,d3,g1,g2,g3,lE,l2,ag,ae,jt,iR,rR,x1,x2,x3,x5,x6,x7,x9,xa,xb,lQ,aW k1,aR k3]
      refine al.ref (by simp only[EO,g3,g4]) (Od hD v (nC v s) r.peer r.pos 0 hmu hvi hs hw H o.at ost ns ds) ?_
      rintro _ H1 ⟨rfl,u1⟩
      simp only[au,Aaa,Aab,kf,du,dF,dz,dK,dE,dy,dR,jt]
      cases co:dT v (nC v s) r.peer
      · rw[if_neg (by rw[co];simp)]at eD
        have u2:e9 H b F H1 v:=by
          rw[dp,if_neg (by rw[co];simp)]at u1
          rw[hF];exact u1
        (rw[hR2];exact⟨false,H1,(k:Int),[[.int .i64 y.kind,.int .i64 (k:Int)],_],qv _,rA rfl,⟨rfl,rfl,rfl⟩,.inr ⟨rfl,u2,eD⟩⟩)
      · rw[if_pos co]at eD
        have u2:e9 H b F H1 (aT (n+1) v s):=by rw[eD,hF];exact u1
        (rw[hR2];exact⟨true,H1,(k:Int),[[.int .i64 y.kind,.int .i64 (k:Int)],_],qv _,rA rfl,⟨rfl,rfl,rfl⟩,.inl ⟨rfl,u2⟩⟩)
    rw[if_neg k3]at eD
    by_cases k2:r.kind=2
    rotate_left
    · rw[if_neg k2]at eD
      simp only[au,Aaa,Aab,kf,du,dF,dz,dK,dE,dy,dR,bC,cb,a1,a2,a3,b1,b2,b3,c1,c2,c3,d1,d2,d3,g1,g2,g3,lE,l2,ag,ae,jt,iR,rR,x1,x2,x3,x5,x6,x7,x9,xa,xb,lQ,aW k1,aW k3,aW k2]
      (rw[hR2];exact⟨false,H,(k:Int),[[.int .i64 y.kind,.int .i64 (k:Int)],_],qv _,rA rfl,⟨rfl,rfl,rfl⟩,.inr ⟨rfl,upv,eD⟩⟩)
    rw[if_pos k2]at eD
    by_cases s3:r.state=3
    · rw[if_pos s3]at eD
      simp only[au,Aaa,Aab,kf,du,dF,dz,dK,dE,dy,dR,bC,cb,a1,a2,a3,b1,b2,b3,c1,c2,c3,d1,d2,d3,g1,g2,g3,lE,l2,ag,ae,jt,iR,rR,x1,x2,x3,x5,x6,x7,x9,xa,xb,lQ,aW k1,aW k3,aR k2,aR s3]
      refine al.ref (by simp only[EO,g3,g4]) (Od hD v (nC v s) r.peer 0 r.pos hmu hvi hs hw H o.at ost ns ds) ?_
      rintro _ H1 ⟨rfl,u1⟩
      simp only[au,Aaa,Aab,kf,du,dF,dz,dK,dE,dy,dR,jt]
      cases co:dT v (nC v s) r.peer
      · rw[if_neg (by rw[co];simp)]at eD
        have u2:e9 H b F H1 v:=by
          rw[dp,if_neg (by rw[co];simp)]at u1
          rw[hF];exact u1
        simp only[au,Aaa,Aab,kf,du,dF,dz,dK,dE,dy,dR,jt]
        (rw[hR2];exact⟨false,H1,(k:Int),[[.int .i64 y.kind,.int .i64 (k:Int)],_],qv _,rA rfl,⟨rfl,rfl,rfl⟩,.inr ⟨rfl,u2,eD⟩⟩)
      rw[if_pos co]at eD
      have ckl:=(wK (gr n) v (nC v s) r.peer 0 r.pos).1
      obtain⟨v1,hv1⟩:∃v1,v1=dp (aT n) v (nC v s) r.peer 0 r.pos:=⟨_,rfl⟩
      rw[←hv1]at ckl eD u1
      clear hv1
      obtain⟨f1,⟨wE1,w21,wL1,w41,fE1,f21,fL1,f41,rfl,o1⟩,l1,m1,r1⟩:=u1
      have hk1:k<v1.entities.length:=by omega
      have eA1:aD v1 y.n=v1.entities[k]:=by simp[aD,ek,Aan,hk1]
      obtain⟨e1,he1⟩:∃e1,e1=aD v1 y.n:=⟨_,rfl⟩
      rw[←he1]at eA1 eD
      have hb1:=o1.hb
      have cb1:∀(e:List AV) (L:List (List AV)) (off n:Nat),(St.mk e L H1).cells (.gp b 0 off) n=sub [.int .i64 v1.id,wE1,w21,wL1,w41] off n:=fun e L off n=>b8 hb1
      obtain⟨aa1,aa2,aa3,aa4⟩:=o1.oE.cell
      obtain⟨bS,gS,nS,row2,fT,iS,rS,lS,oS2,nfT,sT,bmS,bnS,wrS⟩:=o1.jY hk1
      rw[←eA1]at oS2
      obtain⟨wS2,wQ2,wA2,fS2,fQ2,fA2,rfl,rfl,oSS,oQQ,oAA⟩:=c5 oS2
      obtain⟨rd2,H2,f2',s2,l2'',r2,o2,m2⟩:=wrS H1 10 [.int .i64 (IntKind.i64.wrap (e1.count+1))] (cP e1) (fS2++(fQ2++fA2)) [] (Aas _) (fun c hc=>by cases hc) (fun _ _ _ _=>rfl) (by simp) rfl
        (by
          have:=jo (e:=cP e1) oSS oQQ oAA
          exact this) nfT (fun c hc=>.inl hc)
      have rd10:∀(e:List AV) (L:List (List AV)),(St.mk e L H1).cells (.gp bS gS (nS+10)) 1=some [.int .i64 e1.count]:=fun e L=>(rd2 e L 10 1).resolve_right (by omega)
      simp only[au,Aaa,Aab,kf,du,dF,dz,dK,dE,dy,dR,A3,cb1,aa1,aa2,aa3,iS,rd10,s2,jt]
      have ev:({ v1 with entities:=v1.entities.set k (cP e1) }:ar)=aT (n+1) v s:=by rw[eD,cT,ek2]
      rw[ev]at o2
      have u2:e9 H b F H2 (aT (n+1) v s):=⟨f2',o2,by omega,fun c hc=>by
        have:c∈dh fE1 f21 fL1 f41:=by
          rcases m2 c hc with⟨g,_⟩|g
          · exact g
          · exact aO.2 (.inl (sT c g))
        rw[hF];exact m1 c this,fun c h1 h2 h3=>by
        rw[hF]at h1
        rw[r2 c (fun e=>by
          have:c∈dh fE1 f21 fL1 f41:=aO.2 (.inl (e▸bmS))
          rcases m1 c this with q|q
          · exact h1 q
          · omega),r1 c h1 h2 h3]⟩
      (rw[hR2];exact⟨true,H2,(k:Int),[[.int .i64 y.kind,.int .i64 (k:Int)],_],qv _,rA rfl,⟨rfl,rfl,rfl⟩,.inl ⟨rfl,u2⟩⟩)
    rw[if_neg s3]at eD
    by_cases s2:r.state=2
    · rw[if_pos s2]at eD
      simp only[au,Aaa,Aab,kf,du,dF,dz,dK,dE,dy,dR,bC,cb,a1,a2,a3,b1,b2,b3,c1,c2,c3,d1,d2,d3,g1,g2,g3,lE,l2,ag,ae,jt,iR,rR,x1,x2,x3,x5,x6,x7,x9,xa,xb,lQ,aW k1,aW k3,aR k2,aW s3,aR s2]
      (rw[hR2];exact⟨false,H,(k:Int),[[.int .i64 y.kind,.int .i64 (k:Int)],_],qv _,rA rfl,⟨rfl,rfl,rfl⟩,.inr ⟨rfl,upv,eD⟩⟩)
    rw[if_neg s2]at eD
    by_cases t40:r.queue.length<40
    rotate_left
    · rw[if_neg t40]at eD
      simp only[au,Aaa,Aab,kf,du,dF,dz,dK,dE,dy,dR,bC,cb,a1,a2,a3,b1,b2,b3,c1,c2,c3,d1,d2,d3,g1,g2,g3,lE,l2,ag,ae,jt,iR,rR,x1,x2,x3,x5,x6,x7,x9,xa,xb,lQ,aW k1,aW k3,aR k2,aW s3,aW s2,aW (show ¬((r.queue.length:Int)<40)by omega)]
      (rw[hR2];exact⟨false,H,(k:Int),[[.int .i64 y.kind,.int .i64 (k:Int)],_],qv _,rA rfl,⟨rfl,rfl,rfl⟩,.inr ⟨rfl,upv,eD⟩⟩)
    rw[if_pos t40]at eD
    obtain⟨nS2,nQA2,dS2⟩:=Aad.1 nfR
    obtain⟨nQ2,nA2,dQ2⟩:=Aad.1 nQA2
    have ltR:∀c,c∈fS++(fQ++fA)→c<H.length:=fun c hc=>vlt c (aO.2 (.inl (sR c hc)))
    have nofs:∀c∈fs,c∉fS++(fQ++fA):=fun c hc h=>(ds c hc).1 (aO.2 (.inl (sR c h)))
    obtain⟨v',H8,fp',ea,o8,nd8,hf8,hl8,hm8⟩:=df (bytes:=80) oQ (Aad.2 ⟨nQ2,ns,fun x hx y hy e=>nofs y hy (by subst e;simp[hx])⟩) (by omega) rfl ost (by simp only[Aaj,aU];omega)
    obtain⟨p1,p2,p3,p4⟩:=o8.cell
    have kS:∀c∈fS++fA,H8[c]? = H[c]?:=fun c hc=>by
      refine hf8 c (fun h=>?_) (ltR c (by simp only[Aaf]at hc ⊢;exact hc.elim .inl fun h=>.inr (.inr h)))
      rcases Aaf.1 hc with q|q
      · exact dS2 c q c (Aam _ h) rfl
      · exact dQ2 c h c q rfl
    obtain⟨_,H9,f9,s9,l9,r9,o9,m9⟩:=wrR H8 6 [v'] (sh r (nC v s)) (fS++(fp'++fA)) fs hl8 (fun c hc=>ds c hc) (fun c hc hn _=>hf8 c (fun h=>hn (by simp[h])) hc) (by simp)
      (by simp only[je,jg,p3];rfl)
      (by
        have:=jo (e:=sh r (nC v s)) (oS.frame fun c hc=>kS c (by simp[hc])) (wQ:=v') (fQ:=fp') (by simp only[sh,Aaq];exact o8) (oA.frame fun c hc=>kS c (by simp[hc]))
        exact this)
      (Aad.2 ⟨nS2,Aad.2 ⟨nd8,nA2,fun x hx y hy e=>by
        subst e
        rcases hm8 x hx with g|g|g
        · exact dQ2 x g x hy rfl
        · exact nofs x g (by simp[hy])
        · have:=ltR x (by simp[hy]);omega⟩,fun x hx y hy e=>by
        subst e
        rcases Aaf.1 hy with q|q
        · rcases hm8 x q with g|g|g
          · exact dS2 x hx x (by simp[g]) rfl
          · exact nofs x g (by simp[hx])
          · have:=ltR x (by simp[hx]);omega
        · exact dS2 x hx x (by simp[q]) rfl⟩)
      (fun c hc=>by
        simp only[Aaf]at hc ⊢
        rcases hc with g|g|g
        · exact .inl (.inl g)
        · rcases hm8 c g with q|q|q
          · exact .inl (.inr (.inl q))
          · exact .inr (.inl q)
          · exact .inr (.inr q)
        · exact .inl (.inr (.inr g)))
    simp only[au,Aaa,Aab,kf,du,dF,dz,dK,dE,dy,dR,bC,cb,a1,a2,a3,b1,b2,b3,c1,c2,c3,d1,d2,d3,g1,g2,g3,lE,l2,ag,ae,jt,iR,rR,x1,x2,x3,x5,x6,x7,x9,xa,xb,lQ,EA,aW k1,aW k3,aR k2,aW s3,aW s2,aR (show((r.queue.length:Int)<40)by omega),ea,p1,p2,p3,s9]
    have ev:({ v with entities:=v.entities.set k (sh r (nC v s)) }:ar)=aT (n+1) v s:=by rw[eD,cT,ek2]
    rw[ev]at o9
    have u2:e9 H b F H9 (aT (n+1) v s):=⟨f9,o9,by omega,fun c hc=>by
      rw[hF]
      rcases m9 c hc with⟨g,_⟩|g
      · exact .inl (.inl g)
      · simp only[Aaf]at g
        rcases g with q|q|q
        · exact .inl (.inl (aO.2 (.inl (sR c (by simp[q])))))
        · rcases hm8 c q with q|q|q
          · exact .inl (.inl (aO.2 (.inl (sR c (by simp[q])))))
          · exact .inl (.inr q)
          · exact .inr q
        · exact .inl (.inl (aO.2 (.inl (sR c (by simp[q]))))),fun c h1 h2 h3=>by
      rw[hF]at h1
      rw[r9 c (fun e=>h1 (.inl (aO.2 (.inl (e▸bmR))))),hf8 c (fun h=>h1 (.inl (aO.2 (.inl (sR c (by simp[h])))))) h3]⟩
    repeat' (first
      | (guard_target =~ Mem _ _;first|exact Mem.loc ⟨_,([]:List (List AV))++[_],_⟩ _ [_]|exact Mem.heap ⟨_,_,_⟩ _ _)
      | (guard_target =~ jB _ _ _
         refine lG fun r hr=>?_
         rcases(by simpa using hr:r=120∨r=122)with rfl|rfl
         · exact .inr ⟨b,0,1,rfl,by rw[hf8 b (fun h=>o.bE (sR b (by simp[h]))) blt,Aac blt]⟩
         · exact .inl ⟨_,_,rfl⟩)
      | (rw[hR2];exact⟨true,H9,(k:Int),[[.int .i64 y.kind,.int .i64 (k:Int)],_],qv _,rA rfl,⟨rfl,rfl,rfl⟩,.inl ⟨rfl,u2⟩⟩)
      | refine And.intro ?_ ?_)
  intro zst hzst
  rw[hR2]at hzst
  clear hR2
  obtain⟨ok,H',tt,X,g,rfl,⟨eg0,eg3,eg5⟩,fin⟩:=hzst
  rw[show(List.range 138).map g=g 0::g 1::g 2::g 3::g 4::g 5::g 6::g 7::g 8::g 9::g 10::g 11::g 12::g 13::g 14::g 15::g 16::g 17::g 18::g 19::g 20::g 21::g 22::g 23::g 24::g 25::g 26::g 27::g 28::g 29::g 30::g 31::g 32::g 33::g 34::g 35::g 36::g 37::g 38::g 39::g 40::g 41::g 42::g 43::g 44::g 45::g 46::g 47::g 48::g 49::g 50::g 51::g 52::g 53::g 54::g 55::g 56::g 57::g 58::g 59::g 60::g 61::g 62::g 63::g 64::g 65::g 66::g 67::g 68::g 69::g 70::g 71::g 72::g 73::g 74::g 75::g 76::g 77::g 78::g 79::g 80::g 81::g 82::g 83::g 84::g 85::g 86::g 87::g 88::g 89::g 90::g 91::g 92::g 93::g 94::g 95::g 96::g 97::g 98::g 99::g 100::g 101::g 102::g 103::g 104::g 105::g 106::g 107::g 108::g 109::g 110::g 111::g 112::g 113::g 114::g 115::g 116::g 117::g 118::g 119::g 120::g 121::g 122::g 123::g 124::g 125::g 126::g 127::g 128::g 129::g 130::g 131::g 132::g 133::g 134::g 135::g 136::g 137::[] from rfl]
  simp only[eg0,eg3,eg5]
  rcases fin with⟨rfl,fin⟩|⟨rfl,up,ef⟩
  · simp only[au,Aaa,Aab,kf,du,dF,dz,dK,dE,dy,dR,bC]
    rw[hF]at fin
    exact⟨rfl,rfl,fin⟩
  obtain⟨f',a',l',m',r'⟩:=up
  simp only[au,Aaa,Aab,kf,du,dF,dz,dK,dE,dy,dR,bC]
  refine al.val (by simp only[EO]) (xP _) ?_
  simp only[au,Aaa,Aab,kf,du,dF,dz,dK,dE,dy,dR,bC]
  refine al.ref (by simp only[EO,an.c]) (L3 hD v s.result bd hmu hvi (by omega) H' a') ?_
  rintro _ H2 ⟨rfl,u2⟩
  simp only[au,Aaa,Aab,kf,du,dF,dz,dK,dE,dy,dR,bC]
  have fin:=e9.trans l' m' r' u2 (fun c hc=>.inl hc)
  rw[←ef,hF]at fin
  exact⟨rfl,rfl,fin⟩
theorem E5:∀n,Ft Γ n
 | 0=>fun _ _ _ _ _ _ _ h=>absurd h (Nat.not_lt_zero _)
 | n+1=>aad (E5 n)
def yn(e:aA):aA:={ e with sent:=IntKind.i64.wrap (e.sent+1) }
def sG(v:ar)(t:Int)(name:ByteArray)(args:List an):aK:=⟨t,name,args,v.entities.length,⟨v.id,t,IntKind.i64.wrap ((aD v t).sent+1)⟩⟩
def uu(v:ar)(t:Int)(name:ByteArray)(args:List an):Bool:=bB t v.entities.length && (si name && (decide (args.length≤2) && sE args v.entities.length))
def pS(v:ar):ar:={ v with entities:=v.entities++[jF] }
def jm(v:ar)(t:Int):ar:=cT (pS v) t.toNat (yn (aD v t))
def Dd(v:ar)(t:Int)(name:ByteArray)(args:List an):Bool:=uu v t name args && decide (v.entities.length<200)
def kY(v:ar)(t:Int)(name:ByteArray)(args:List an):ar×Int:=if Dd v t name args=true then (aT (mJ (jm v t)+1) (jm v t) (sG v t name args),(v.entities.length:Int))else (v,-1)
theorem BQ{t:Int}{n:Nat}(h:bB t n=true):bB t (n+1)=true:=by
 simp only[bB,Aap,decide_eq_true_eq]at h ⊢;omega
theorem qR{v:ar}{t:Int}(h:bB t v.entities.length=true):aD (pS v) t=aD v t:=by
 obtain⟨k,hk,e1,e2,e3⟩:=cL h;rw[e3];simp only[aD,pS,e2,Aan,Aac hk,List.getElem?_eq_getElem hk,Option.getD_some]
theorem LP(v:ar):wV (pS v)=wV v∧(VI v→v.entities.length<200→VI (pS v)):=by
 refine⟨by simp[wV,pS,oq,jF,sM],fun h hl=>⟨by simp only[pS,Aae,Aag,Aah];omega,h.loop,h.aq,h.ans,fun e he=>?_,h.lps,h.outs⟩⟩;rcases Aaf.1 he with g|g
 ·exact h.en e g
 ·rw[Aai.1 g];exact⟨Nat.zero_le _,fun s hs=>by simp[jF]at hs⟩
theorem Ic{v:ar}{t:Int}(h:bB t v.entities.length=true):wV (jm v t)=wV v∧(VI v→v.entities.length<200→VI (jm v t)):=by
 have h':bB t (pS v).entities.length=true:=by
  have:=BQ h;simpa[pS]using this
 have b1:=uk h' (yn (aD v t));rw[qR h,(LP v).1]at b1;have g:oq (yn (aD v t))=oq (aD v t):=rfl;exact⟨by unfold jm;omega,fun hv hl=>pw ((LP v).2 hv hl) _ _ (gZ hv t)⟩
theorem vU{v:ar}{t:Int}{name:ByteArray}{args:List an}(h:Dd v t name args=true):bB t v.entities.length=true∧si name=true∧args.length≤2∧sE args v.entities.length=true∧v.entities.length<200:=by
 simp only[Dd,uu,Aap,decide_eq_true_eq]at h;exact⟨h.1.1,h.1.2.1,h.1.2.2.1,h.1.2.2.2,h.2⟩
theorem Ca{v:ByteArray}(h:si v=true):v.size≤6:=by
 simp only[si,Aap,tZ,decide_eq_true_eq]at h;omega
theorem MV(v:ar)(t:Int)(name:ByteArray)(args:List an):wV (kY v t name args).1≤wV v+4∧(VI v→VI (kY v t name args).1):=by
 unfold kY;split
 ·rename_i h;obtain⟨h1,h2,h3,h4,h5⟩:=vU h;obtain⟨w1,w2⟩:=Ic h1;have hD:=gr (mJ (jm v t)+1);refine⟨?_,fun hv=>hD.vi _ _ (w2 hv h5) ⟨by have:=Ca h2;show name.size≤100;omega,by show args.length≤100;omega⟩⟩;have:=hD.w (jm v t) (sG v t name args);have e:(sG v t name args).args=args:=rfl;rw[e]at this;simp only;omega
 ·exact⟨by simp only;omega,id⟩
set_option maxHeartbeats 8000000 in
set_option maxRecDepth 100000 in
theorem YU(v:ar)(t:Int)(name:ByteArray)(args:List an)(hvi:VI v)(hw:wV v≤400000)(hn:name.size≤1048576)(ha:args.length≤1048576)(β:Bool)(H:AH){b:Nat}{f:List Nat}(a:jr H b v f):
 T Tryz.prog Γ Fn.kcK [.gp b 0 0,.int .i64 t,.str name,.vs β 2 false (args.map (an.c β))] H fun r H'=>r=.int .i64 (kY v t name args).2∧e9 H b (fun c=>c∈f) H' (kY v t name args).1:=by
 obtain⟨wE,w2,wL,w4,fE,f2,fL,f4,rfl,o⟩:=a;have hE:v.entities.length≤1048576:=by have:=hvi.fH;omega
 have L0:=eY β 2 false args (an.c β);have hb:=o.hb;have bf:=o.bf;have blt:=o.blt;have vlt:=o.lt;have cb:=VO.Cp hb;obtain⟨a1,a2,a3,a4⟩:=o.oE.cell;obtain⟨b1,b2,b3,b4⟩:=o.o2.cell;obtain⟨c1,c2,c3,c4⟩:=o.oL.cell;obtain⟨d1,d2,d3,d4⟩:=o.o4.cell;obtain⟨_,lE⟩:=dc o.oE;rw[Aaj]at lE;have upv:e9 H b (fun c=>c∈dh fE f2 fL f4) H v:=e9.refl o.at fun c hc=>hc;refine kcK_e (aC aG mixed [] _ _ _ ?_);unfold NI;have bad:uu v t name args=false→kY v t name args=(v,-1):=fun h=>by rw[kY,if_neg (by rw[Dd,h];simp)]
 cases e1:bB t v.entities.length
 ·rw[bad (by rw[uu,e1];rfl)];simp only[au,Aaa,Aab,nI,gY,ij,eO,eP,bC,cb,a1,a2,a3,b1,b2,b3,c1,c2,c3,d1,d2,d3,lE,L0];refine al.val (by simp only[EO]) (gQ _ _ _ _) ?_;rw[fG _ hE,e1];simp only[au,Aaa,Aab,nI,gY,ij,eO,eP,bC];first|exact⟨rfl,rfl,upv⟩|exact⟨rfl,upv⟩|exact upv
 cases e2:si name
 ·rw[bad (by rw[uu,e1,e2];rfl)];simp only[au,Aaa,Aab,nI,gY,ij,eO,eP,bC,cb,a1,a2,a3,b1,b2,b3,c1,c2,c3,d1,d2,d3,lE,L0];refine al.val (by simp only[EO]) (gQ _ _ _ _) ?_;rw[fG _ hE,e1];simp only[au,Aaa,Aab,nI,gY,ij,eO,eP,bC];refine al.val (by simp only[EO]) (C2 name hn _) ?_;rw[e2];simp only[au,Aaa,Aab,nI,gY,ij,eO,eP,bC];first|exact⟨rfl,rfl,upv⟩|exact⟨rfl,upv⟩|exact upv
 by_cases e3:args.length≤2;rotate_left
 ·rw[bad (by rw[uu,e1,e2,aW e3];rfl)];simp only[au,Aaa,Aab,nI,gY,ij,eO,eP,bC,cb,a1,a2,a3,b1,b2,b3,c1,c2,c3,d1,d2,d3,lE,L0];refine al.val (by simp only[EO]) (gQ _ _ _ _) ?_;rw[fG _ hE,e1];simp only[au,Aaa,Aab,nI,gY,ij,eO,eP,bC];refine al.val (by simp only[EO]) (C2 name hn _) ?_;rw[e2];simp only[au,Aaa,Aab,nI,gY,ij,eO,eP,bC,L0,aR (show(args.length:Int)>2 by omega),aR (show(2:Int)<(args.length:Int)by omega)];first|exact⟨rfl,rfl,upv⟩|exact⟨rfl,upv⟩|exact upv
 cases e4:sE args v.entities.length
 ·rw[bad (by rw[uu,e1,e2,aR e3,e4];rfl)];simp only[au,Aaa,Aab,nI,gY,ij,eO,eP,bC,cb,a1,a2,a3,b1,b2,b3,c1,c2,c3,d1,d2,d3,lE,L0];refine al.val (by simp only[EO]) (gQ _ _ _ _) ?_;rw[fG _ hE,e1];simp only[au,Aaa,Aab,nI,gY,ij,eO,eP,bC];refine al.val (by simp only[EO]) (C2 name hn _) ?_;rw[e2];simp only[au,Aaa,Aab,nI,gY,ij,eO,eP,bC,cb,a1,a2,a3,lE,L0,aW (show ¬(args.length:Int)>2 by omega),aW (show ¬(2:Int)<(args.length:Int)by omega)];refine al.val (by simp only[EO]) (RJ β args ha _ hE _) ?_;rw[e4];simp only[au,Aaa,Aab,nI,gY,ij,eO,eP,bC];first|exact⟨rfl,rfl,upv⟩|exact⟨rfl,upv⟩|exact upv
 have ok:uu v t name args=true:=by rw[uu,e1,e2,aR e3,e4];rfl
 simp only[au,Aaa,Aab,nI,gY,ij,eO,eP,bC,cb,a1,a2,a3,b1,b2,b3,c1,c2,c3,d1,d2,d3,lE,L0];refine al.val (by simp only[EO]) (gQ _ _ _ _) ?_;rw[fG _ hE,e1];simp only[au,Aaa,Aab,nI,gY,ij,eO,eP,bC];refine al.val (by simp only[EO]) (C2 name hn _) ?_;rw[e2];simp only[au,Aaa,Aab,nI,gY,ij,eO,eP,bC,cb,a1,a2,a3,lE,L0,aW (show ¬(args.length:Int)>2 by omega),aW (show ¬(2:Int)<(args.length:Int)by omega)];refine al.val (by simp only[EO]) (RJ β args ha _ hE _) ?_;rw[e4];simp only[au,Aaa,Aab,nI,gY,ij,eO,eP,bC];refine al.val (by simp only[EO]) (ID _) ?_;simp only[au,Aaa,Aab,nI,gY,ij,eO,eP,bC];refine al.ref (by simp only[EO,uz]) (Lc v jF H o.at (Gd H) (by simp) (fun c hc=>by cases hc)) ?_;rintro _ H1 ⟨rfl,u1⟩;by_cases h2:200≤v.entities.length
 ·have en:k8 v = -1:=by rw[k8,if_pos h2]
  have ef:dv v jF=v:=by rw[dv,if_pos h2]
  have es:kY v t name args=(v,-1):=by rw[kY,if_neg (by rw[Dd,aW (by omega)];simp)]
  rw[en,es];rw[ef]at u1;have fin:e9 H b (fun c=>c∈dh fE f2 fL f4) H1 v:=e9.mono u1 fun c hc=>hc.elim id fun h=>by cases h
  simp only[au,Aaa,Aab,nI,gY,ij,eO,eP,bC,show decide ((-1:Int)<0)=true from rfl];first|exact⟨rfl,rfl,fin⟩|exact⟨rfl,fin⟩|exact fin
 have en:k8 v=(v.entities.length:Int):=by rw[k8,if_neg h2]
 have ef:dv v jF=pS v:=by rw[dv,if_neg h2];rfl
 have es:kY v t name args=(aT (mJ (jm v t)+1) (jm v t) (sG v t name args),(v.entities.length:Int)):=by rw[kY,if_pos (by rw[Dd,ok,aR (by omega)];rfl)]
 rw[es];rw[ef]at u1;obtain⟨f1,⟨wE1,w21,wL1,w41,fE1,f21,fL1,f41,rfl,o1⟩,l1,m1,r1⟩:=u1;obtain⟨k,hk,ek,ek2,eA⟩:=cL e1;have hk1:k<(pS v).entities.length:=by simp only[pS,Aae];omega
 obtain⟨e,he⟩:∃e,e=aD v t:=⟨_,rfl⟩
 have eA1:e=(pS v).entities[k]:=by rw[he,eA];simp only[pS];rw[List.getElem_append_left hk]
 have hb1:=o1.hb;have blt1:=o1.blt;have vlt1:=o1.lt;have cb1:∀(e:List AV) (L:List (List AV)) (off n:Nat),(St.mk e L H1).cells (.gp b 0 off) n=sub [.int .i64 v.id,wE1,w21,wL1,w41] off n:=fun e L off n=>b8 hb1;obtain⟨aa1,aa2,aa3,aa4⟩:=o1.oE.cell;obtain⟨bS,gS,nS,row2,fT,iS,rS,lS,oS2,nfT,sT,bmS,bnS,wrS⟩:=o1.jY hk1;rw[←eA1]at oS2;obtain⟨wS2,wQ2,wA2,fS2,fQ2,fA2,rfl,rfl,oSS,oQQ,oAA⟩:=c5 oS2;obtain⟨rd2,H2,f2',s2,l2'',r2,o2,m2⟩:=wrS H1 11 [.int .i64 (IntKind.i64.wrap (e.sent+1))] (yn e) (fS2++(fQ2++fA2)) [] (Aas _) (fun c hc=>by cases hc) (fun _ _ _ _=>rfl) (by simp) rfl
  (by
   have:=jo (e:=yn e) oSS oQQ oAA;exact this) nfT (fun c hc=>.inl hc)
 have rd11:∀(e':List AV) (L:List (List AV)),(St.mk e' L H1).cells (.gp bS gS (nS+11)) 1=some [.int .i64 e.sent]:=fun e' L=>(rd2 e' L 11 1).resolve_right (by omega);have ev:({ pS v with entities:=(pS v).entities.set k (yn e) }:ar)=jm v t:=by rw[jm,cT,ek2,he]
 rw[ev]at o2;obtain⟨wE2,w22,wL2,w42,fE2,f22,fL2,f42,rfl,o2⟩:=o2;have hb2:=o2.hb;have same:cF H2 b=cF H1 b:=bc (r2 b (fun h=>o1.bE (h▸bmS)));have vid:(jm v t).id=v.id:=rfl;have vid1:(pS v).id=v.id:=rfl;have hh:=hb2;rw[same,hb1,vid,vid1]at hh;simp only[Option.some.injEq,Prod.mk.injEq,List.cons.injEq,true_and,and_true]at hh;obtain⟨rfl,rfl,rfl,rfl⟩:=hh;have blt2:=o2.blt;have vlt2:=o2.lt;rw[vid]at hb2;have cb2:∀(e:List AV) (L:List (List AV)) (off n:Nat),(St.mk e L H2).cells (.gp b 0 off) n=sub [.int .i64 v.id,wE1,w21,wL1,w41] off n:=fun e L off n=>b8 hb2;have hk2:k<(jm v t).entities.length:=by rw[jm,js];exact hk1
 have eA2:(jm v t).entities[k]=yn e:=by
  have:(jm v t).entities=(pS v).entities.set k (yn e):=by rw[←ev]
  simp only[this,List.getElem_set_self]
 obtain⟨bT,gT,nT,row3,fU,iT,rT,lT,oT2,nfU,sU,bmT,bnT,wrT⟩:=o2.jY hk2;rw[iS]at iT;injection iT with iT
 injection iT with j1 j2 j3
 subst j1 j2 j3;rw[eA2]at oT2;obtain⟨rd3,_⟩:=wrT H2 0 [] (yn e) fU [] (Aas _) (fun c hc=>by cases hc) (fun _ _ _ _=>rfl) (by simp) rfl (by
  have:c8 row3 0 []=row3:=by simp[c8]
  rw[this];exact oT2) nfU (fun c hc=>.inl hc)
 have rd11':∀(e':List AV) (L:List (List AV)),(St.mk e' L H2).cells (.gp bS gS (nS+11)) 1=some [.int .i64 (IntKind.i64.wrap (e.sent+1))]:=fun e' L=>by
  rw[(rd3 e' L 11 1).resolve_right (by omega)];obtain⟨_,_,_,_,_,_,rfl,_⟩:=c5 oT2;rfl
 obtain⟨w',H3,fw,ea,ow,nw,hf3,hl3,hm3⟩:=rY (bytes:=16) (gn H2 2) (by simp) (by omega) (β:=β) (l:=args) (c:=an.c β) (fun x=>⟨rfl,rfl⟩) (fun x=>(an.bO false x).symm) (by simp only[Aah,aU];omega);obtain⟨p1,p2,p3,p4⟩:=ow.cell;simp only[Aae,Aag,Aah]at hl3 hf3;simp only[au,Aaa,Aab,nI,gY,ij,eO,eP,bN,en,aW (show ¬(v.entities.length:Int)<0 by omega),ek,cb1,cb2,aa1,aa2,aa3,iS,rd11,rd11',s2,ea,p1,p2,p3,ji,sO,sI,sK];have keep3:∀c,c<H2.length→H3[c]? = H2[c]?:=fun c hc=>by
  rw[hf3 c (by simp only[Aai];omega) (by omega),Aac hc]
 have bS2:bS<H2.length:=vlt2 bS (aO.2 (.inl bmT));refine⟨lG fun r hr=>?_,?_⟩
 ·rcases(by simpa using hr:r=69∨r=74∨r=78)with rfl|rfl|rfl
  ·exact .inr ⟨b,0,_,rfl,by rw[keep3 b blt2,Aac blt2]⟩
  ·exact .inr ⟨b,0,_,rfl,by rw[keep3 b blt2,Aac blt2]⟩
  ·exact .inr ⟨bS,gS,_,rfl,by rw[keep3 bS bS2,Aac bS2]⟩
 rw[←ek];obtain⟨sk1,sk2⟩:=Ic e1;have own:aM H3 [.int .i64 t,.str name,w',.int .i64 (v.entities.length:Int),.int .i64 v.id,.int .i64 t,.int .i64 (IntKind.i64.wrap (e.sent+1))] (sG v t name args).cd fw:=by
  have:=tJ (s:=sG v t name args) (wa:=w') (f:=fw) (H:=H3) (by rw[Aax]at ow;exact ow);rw[he];exact this
 have a3:jr H3 b (jm v t) (dh fE2 f22 fL2 f42):=o2.at.frame fun c hc=>keep3 c (by rcases hc with g|g;exact vlt2 c g;rw[g];exact blt2);have fwn:∀c∈fw,H2.length≤c:=fun c hc=>by
  rcases hm3 c hc with g|g
  ·rw[Aai.1 g];exact Aas _
  ·simp only[Aae,Aag,Aah]at g;omega
 refine al.ref (by simp only[EO,p3,p4]) (E5 (mJ (jm v t)+1) (jm v t) (sG v t name args) H3 b _ _ fw (by omega) (sk2 hvi (by omega)) ⟨by have:=Ca e2;show name.size≤100;omega,by show args.length≤100;omega⟩ (by show wV (jm v t)+2+args.length≤500000;omega) a3 own nw (fun c hc=>⟨fun h=>by have:=vlt2 c h;have:=fwn c hc;omega,fun h=>by have:=fwn c hc;omega⟩)) ?_;rintro _ H4 ⟨rfl,f4',o4,l4,m4,r4⟩;replace o4:jr H4 b (aT (mJ (jm v t)+1) (jm v t) (sG v t name args)) f4':=o4;replace l4:H3.length≤H4.length:=l4;replace m4:∀c∈f4',(c∈dh fE2 f22 fL2 f42∨c∈fw)∨H3.length≤c:=m4;replace r4:∀c,¬(c∈dh fE2 f22 fL2 f42∨c∈fw)→c≠b→c<H3.length→H4[c]? = H3[c]?:=r4;have m1':∀c∈dh fE1 f21 fL1 f41,c∈dh fE f2 fL f4∨H.length≤c:=fun c hc=>by
  rcases m1 c hc with(g|g)|g
  ·exact .inl g
  ·cases g
  ·exact .inr g
 have m2':∀c∈dh fE2 f22 fL2 f42,c∈dh fE f2 fL f4∨H.length≤c:=fun c hc=>by
  rcases m2 c hc with⟨g,_⟩|g
  ·exact m1' c g
  ·exact m1' c (aO.2 (.inl (sT c g)))
 have fin:e9 H b (fun c=>c∈dh fE f2 fL f4) H4 (aT (mJ (jm v t)+1) (jm v t) (sG v t name args)):=⟨f4',o4,by omega,fun c hc=>by
  rcases m4 c hc with(g|g)|g
  ·exact m2' c g
  ·exact .inr (by have:=fwn c g;omega)
  ·exact .inr (by omega),fun c h1 h2 h3=>by
  rw[r4 c (fun h=>by
   rcases h with g|g
   ·rcases m2' c g with q|q
    ·exact h1 q
    ·omega
   ·have:=fwn c g;omega) h2 (by omega),keep3 c (by omega),r2 c (fun h=>by
   rcases m1' c (aO.2 (.inl (h▸bmS)))with q|q
   ·exact h1 q
   ·omega),r1 c (fun h=>by
   rcases h with g|g
   ·exact h1 g
   ·cases g) h2 h3]⟩
 simp only[au,Aaa,Aab,nI,gY,ij,eO,eP,bC];first|exact⟨rfl,rfl,fin⟩|exact⟨rfl,fin⟩|exact fin
theorem pA{H:AH}{z cells:List AV}(hz:z.length=cells.length)(hn:cells.all bM=true):∃H',(∀(e:List AV) (L:List (List AV)),(St.mk e L (H++[some (0,z)])).store (.gp H.length 0 0) cells=some ⟨e,L,H'⟩)∧cF H' H.length=some (0,cells)∧H'.length=H.length+1∧∀c,c<H.length→H'[c]? = H[c]?:=by
 obtain⟨H',s,m,l,r⟩:=(pj.nil (eQ H (0,z))).store (i:=0) (vs:=cells) (by omega) hn;refine⟨H',fun e L=>by simpa using s e L,?_,by rw[l];simp,fun c hc=>by rw[r c (by omega),Aac hc]⟩;have:=m.eq;simp only[Aax,List.append_nil]at this;rw[this];simp[c8,←hz]
theorem kN{h H1 H2 H3:AH}{v':ar}{F:List Nat}(eg:cQ h H1)(l2:H2.length=H1.length+1)(r2:∀c,c<H1.length→H2[c]? = H1[c]?)(bb:∀c∈F,h.length≤c)(u:e9 H2 H1.length (fun c=>c∈F) H3 v'):
 ∃wE w2 wL w4 fE f2 fL f4,VO H3 H1.length v' wE w2 wL w4 fE f2 fL f4∧aM H3 [.int .i64 v'.id,wE,w2,wL,w4] v'.cd (dh fE f2 fL f4)∧(dh fE f2 fL f4).Nodup∧(∀c∈dh fE f2 fL f4,h.length≤c)∧∃N,H3=h++N:=by
 obtain⟨f3,⟨wE,w2,wL,w4,fE,f2,fL,f4,rfl,o3⟩,l3,m3,r3⟩:=u;have hlen:=eg.len;refine⟨wE,w2,wL,w4,fE,f2,fL,f4,o3,o3.own,o3.nodup,fun c hc=>?_,?_⟩
 ·rcases m3 c hc with q|q
  ·exact bb c q
  ·omega
 ·exact cQ.out ⟨by omega,fun c hc=>by
   rw[r3 c (fun q=>by have:=bb c q;omega) (by omega) (by omega),r2 c (by omega),eg.fr c hc]⟩
set_option maxHeartbeats 4000000 in
set_option maxRecDepth 100000 in
theorem XP(β β':Bool)(v:ar)(t:Int)(name:ByteArray)(args:List an)(hvi:VI v)(hw:wV v≤400000)(hn:name.size≤1048576)(ha:args.length≤1048576)(h:AH):
 T Tryz.prog Γ Fn.kcn [.agg (v.c β),.int .i64 t,.str name,.vs β' 2 false (args.map (an.c β'))] h (aX h [.a (kY v t name args).1.cd,.c (.i .i64 (kY v t name args).2)]):=by
 refine T.AZ rfl ?_;refine VX (aC aG mixed [10] _ _ _ ?_);unfold QF;simp only[au,Aaa,Aab,Ip,bC,ar.c];refine al.ref (by simp only[EO]) (Aq β v (hvi.Gt.mono (by omega)) _) ?_;rintro w H1 fr;replace fr:aX h _ _ _:=fr;obtain⟨ac,f,rfl,o,nd,bb,eg⟩:=fr.a1;obtain⟨wE,w2,wL,w4,fE,f2,fL,f4,rfl,rfl,oE,o2,oL,o4⟩:=kJ o;obtain⟨a1,a2,a3,a4⟩:=oE.cell;obtain⟨b1,b2,b3,b4⟩:=o2.cell;obtain⟨c1,c2,c3,c4⟩:=oL.cell;obtain⟨d1,d2,d3,d4⟩:=o4.cell;obtain⟨H2,s2,hb2,l2,r2⟩:=pA (H:=H1) (z:=[.int .i64 0,.nils,.nils,.nils,.nils]) (cells:=[.int .i64 v.id,wE,w2,wL,w4]) rfl (by simp only[je,jg,a3,b3,c3,d3];rfl);have lt1:∀c∈fE++(f2++(fL++f4)),c<H1.length:=fun c hc=>o.lt c hc;have vat2:jr H2 H1.length v (fE++(f2++(fL++f4))):=jr.of hb2 (o.frame fun c hc=>r2 c (lt1 c hc)) nd (fun hc=>Aat _ (lt1 _ hc));simp only[au,Aaa,Aab,Ip,bN,pf _ _ (show Aaz [AV.int .i64 0,.nils,.nils,.nils,.nils] bM=true from rfl),jH,a1,a2,a3,b1,b2,b3,c1,c2,c3,d1,d2,d3,s2,an.c];refine al.ref (by simp only[EO]) (YU v t name args hvi hw hn ha β' H2 vat2) ?_;rintro _ H3 ⟨rfl,u3⟩;obtain⟨wE',w2',wL',w4',_,_,_,_,o3,own3,nd3,bb3',N,hN⟩:=kN eg l2 r2 bb u3;obtain⟨aa1,aa2,aa3,aa4⟩:=o3.oE.cell;obtain⟨bb1,bb2,bb3,bb4⟩:=o3.o2.cell;obtain⟨cc1,cc2,cc3,cc4⟩:=o3.oL.cell;obtain⟨dd1,dd2,dd3,dd4⟩:=o3.o4.cell;have cb3:∀(e:List AV) (L:List (List AV)) (off n:Nat),(St.mk e L H3).cells (.gp H1.length 0 off) n=sub _ off n:=fun e L off n=>b8 o3.hb;simp only[au,Aaa,Aab,Ip,bN,cb3,aa1,aa2,aa3,bb1,bb2,bb3,cc1,cc2,cc3,dd1,dd2,dd3];exact⟨by first|simp only[Aak,Aal,EO,aa3,aa4,bb3,bb4,cc3,cc4,dd3,dd4]|(simp only[cY,EO,aa3,aa4,bb3,bb4,cc3,cc4,dd3,dd4])|(show gq _=true;simp only[EO,aa3,aa4,bb3,bb4,cc3,cc4,dd3,dd4]),_,N,_,rfl,hN,own3,nd3,bb3'⟩
set_option maxHeartbeats 4000000 in
set_option maxRecDepth 100000 in
theorem ZF(β β':Bool)(v:ar)(p:Int)(x:an)(hvi:VI v)(hw:wV v≤400000)(h:AH):
 T Tryz.prog Γ Fn.kcm [.agg (v.c β),.int .i64 p,.agg (x.c β')] h (aX h [.a (dD (aT (mJ v+1)) v p x).cd]):=by
 refine T.jJ ?_;refine X0 (aC aG mixed [7] _ _ _ ?_);unfold Sx;simp only[au,Aaa,Aab,Iw,bC,ar.c,an.c];refine al.ref (by simp only[EO]) (Aq β v (hvi.Gt.mono (by omega)) _) ?_;rintro w H1 fr;replace fr:aX h _ _ _:=fr;obtain⟨ac,f,rfl,o,nd,bb,eg⟩:=fr.a1;obtain⟨wE,w2,wL,w4,fE,f2,fL,f4,rfl,rfl,oE,o2,oL,o4⟩:=kJ o;obtain⟨a1,a2,a3,a4⟩:=oE.cell;obtain⟨b1,b2,b3,b4⟩:=o2.cell;obtain⟨c1,c2,c3,c4⟩:=oL.cell;obtain⟨d1,d2,d3,d4⟩:=o4.cell;obtain⟨H2,s2,hb2,l2,r2⟩:=pA (H:=H1) (z:=[.int .i64 0,.nils,.nils,.nils,.nils]) (cells:=[.int .i64 v.id,wE,w2,wL,w4]) rfl (by simp only[je,jg,a3,b3,c3,d3];rfl);have lt1:∀c∈fE++(f2++(fL++f4)),c<H1.length:=fun c hc=>o.lt c hc;have vat2:jr H2 H1.length v (fE++(f2++(fL++f4))):=jr.of hb2 (o.frame fun c hc=>r2 c (lt1 c hc)) nd (fun hc=>Aat _ (lt1 _ hc));simp only[au,Aaa,Aab,Iw,bN,pf _ _ (show Aaz [AV.int .i64 0,.nils,.nils,.nils,.nils] bM=true from rfl),jH,a1,a2,a3,b1,b2,b3,c1,c2,c3,d1,d2,d3,s2,an.c];refine al.ref (by simp only[EO]) (L3 (E5 (mJ v+1)) v p x (by omega) hvi (by omega) H2 vat2) ?_;rintro _ H3 ⟨rfl,u3⟩;obtain⟨wE',w2',wL',w4',_,_,_,_,o3,own3,nd3,bb3',N,hN⟩:=kN eg l2 r2 bb u3;obtain⟨aa1,aa2,aa3,aa4⟩:=o3.oE.cell;obtain⟨bb1,bb2,bb3,bb4⟩:=o3.o2.cell;obtain⟨cc1,cc2,cc3,cc4⟩:=o3.oL.cell;obtain⟨dd1,dd2,dd3,dd4⟩:=o3.o4.cell;have cb3:∀(e:List AV) (L:List (List AV)) (off n:Nat),(St.mk e L H3).cells (.gp H1.length 0 off) n=sub _ off n:=fun e L off n=>b8 o3.hb;simp only[au,Aaa,Aab,Iw,bN,cb3,aa1,aa2,aa3,bb1,bb2,bb3,cc1,cc2,cc3,dd1,dd2,dd3];exact⟨by first|simp only[Aak,Aal,EO,aa3,aa4,bb3,bb4,cc3,cc4,dd3,dd4]|(simp only[cY,EO,aa3,aa4,bb3,bb4,cc3,cc4,dd3,dd4])|(show gq _=true;simp only[EO,aa3,aa4,bb3,bb4,cc3,cc4,dd3,dd4]),_,N,_,rfl,hN,own3,nd3,bb3'⟩
def LH(script:Int):aA:=jh script []
def p0(peer:Int):aF:=(jq (vv peer) 0).1
def iM(id:Int)(peers:List Int)(script:Int):ar:=⟨id,LH script::peers.map fun p=>lC p 1,[],peers.map p0,[]⟩
set_option maxHeartbeats 4000000 in
set_option maxRecDepth 100000 in
theorem XH(β:Bool)(id:Int)(peers:List Int)(hp:peers.length≤1000)(script:Int)(h:AH):
 T Tryz.prog Γ Fn.kcb [.int .i64 id,.vs β 1 false (peers.map fun p=>[.int .i64 p]),.int .i64 script] h (aX h [.a (iM id peers script).cd]):=by
 have L0:=eY β 1 false peers fun p=>[AV.int .i64 p]
 refine T.jJ ?_;refine U6 (aC aG mixed [] _ _ _ ?_);unfold Qn;simp only[au,Aaa,Aab,yM,qe,lB,bN,L0];refine al.own (by simp only[EO]) (aI (.same _) (aI (b9.fk (l:=([]:List an)) (an.bO true) (gn h 2)) aZ)) (Pb true script [] (by simp)) ?_;rintro _ H1 fr;replace fr:aX (h++[some (0,[])]) _ _ _:=fr;obtain⟨ac,f,rfl,oe,nd,bb,eg⟩:=fr.a1;obtain⟨wS,wQ,wA,fS,fQ,fA,rfl,rfl,oS,oQ,oA⟩:=c5 oe;obtain⟨x1,x2,x3,x4⟩:=oS.cell;obtain⟨x5,x6,x7,x8⟩:=oQ.cell;obtain⟨x9,xa,xb,xc⟩:=oA.cell;obtain⟨l1,r1⟩:=eg;simp only[Aae,Aag,Aah]at l1 r1 bb;have oE0:=xQ H1 (sz:=12) (by rfl) oe;simp only[au,Aaa,Aab,yM,qe,lB,bN,jh,x1,x2,x3,x5,x6,x7,x9,xa,xb];obtain⟨H2,hH2⟩:∃H2,H2=H1++[some (0,[AV.int .i64 (jh script []).kind,.int .i64 (jh script []).script,wS,.int .i64 (jh script []).state,.int .i64 (jh script []).value.kind,.int .i64 (jh script []).value.n,wQ,wA,.int .i64 (jh script []).peer,.int .i64 (jh script []).pos,.int .i64 (jh script []).count,.int .i64 (jh script []).sent])]:=⟨_,rfl⟩
 rw[←hH2]at oE0;have l2:H2.length=H1.length+1:=by rw[hH2];simp
 have r2:∀c,c<h.length→H2[c]? = h[c]?:=fun c hc=>by
  rw[hH2,Aac (by omega),r1 c (by omega),Aac hc]
 have ev2:H1++[some (0,[AV.int .i64 1,.int .i64 script,wS,.int .i64 0,.int .i64 0,.int .i64 0,wQ,wA,.int .i64 0,.int .i64 0,.int .i64 0,.int .i64 0])]=H2:=by rw[hH2];rfl
 try rw[ev2]
 have nd0:(H1.length::(fS++(fQ++fA))).Nodup:=List.nodup_cons.2 ⟨fun hc=>Aat _ (oe.lt _ hc),nd⟩;have bb0:∀c∈H1.length::(fS++(fQ++fA)),h.length≤c:=fun c hc=>by
  rcases Aay.1 hc with g|g
  ·omega
  ·have:=bb c g;omega
 refine fD aG mixed [] (fun x:Nat×AH×AV×AV×List Nat×List Nat×List (List AV)=>x.1≤peers.length∧b9 x.2.1 x.2.2.1 (.sl 12 ((LH script::(peers.take x.1).map fun p=>lC p 1).map aA.cd)) x.2.2.2.2.1∧b9 x.2.1 x.2.2.2.1 (.sl 7 (((peers.take x.1).map p0).map aF.cd)) x.2.2.2.2.2.1∧(x.2.2.2.2.1++x.2.2.2.2.2.1).Nodup∧(∀c∈x.2.2.2.2.1++x.2.2.2.2.2.1,h.length≤c)∧cQ h x.2.1) (fun x=>peers.length-x.1)
  (fun x=>GP (.vs β 1 false (peers.map fun p=>[.int .i64 p])) (.lp ([]:List (List AV)).length 0) (.lp (([]:List (List AV)).length+1) 0) (.int .i64 x.1) (LL [.int .i64 0,.nils,.nils,.nils,.nils] [.int .i64 id,x.2.2.1,.nils,x.2.2.2.1,.nils] x.2.2.2.2.2.2) x.2.1) (0,H2,.gs H1.length 0 0 1 1 12 true,.nils,H1.length::(fS++(fQ++fA)),[],[])
  ⟨by simp,oE0,.nil 7,by simpa using nd0,by simpa using bb0,⟨by show h.length≤H2.length;omega,r2⟩⟩ ⟨by simp[GP,gW,gM],rfl,rfl⟩ ?_
 clear oE0;rintro⟨i,Hi,wE,wL,fE,fL,X⟩ ⟨hi,oE,oL,ni,bi,ei⟩;simp only at hi oE oL ni bi ei;obtain⟨a1,a2,a3,a4⟩:=oE.cell;obtain⟨c1,c2,c3,c4⟩:=oL.cell;simp only[au,Aaa,Aab,yM,qe,lB,GP,bN,L0];refine bz (fun hlt=>?_) (fun hge=>?_);rotate_left
 ·have hge:i=peers.length:=by simp at hge;omega
  subst hge;rw[List.take_length]at oE oL;have st0:∀(e:List AV) (h:AH),(St.mk e (LL [.int .i64 0,.nils,.nils,.nils,.nils] [.int .i64 id,wE,.nils,wL,.nils] X) h).store (.lp (([]:List (List AV)).length) 0) [.int .i64 id,wE,.nils,wL,.nils]=some ⟨e,LL [.int .i64 id,wE,.nils,wL,.nils] [.int .i64 id,wE,.nils,wL,.nils] X,h⟩:=fun e h=>BJ (by simp) (by simp only[Aak,Aal,a2,c2];rfl);simp only[au,Aaa,Aab,yM,qe,lB,bN,a1,a2,a3,c1,c2,c3,cg,gj,st0];obtain⟨N,hN⟩:=ei.out;have own:aM Hi [.int .i64 id,wE,.nils,wL,.nils] (iM id peers script).cd (fE++([]++(fL++([]++[])))):=.i (.o oE (.o (.nil 7) (.o oL (.o (.nil 13) .nil))));exact⟨by simp only[cY,EO,a3,a4,c3,c4],_,N,_,rfl,hN,own,by simpa using ni,by simpa using bi⟩
 have hlt:i<peers.length:=by simpa using hlt
 have i0:=fI (β:=β) (sz:=1) (ex:=false) (ce:=fun p=>[AV.int .i64 p]) hlt;obtain⟨p,hp'⟩:∃p,p=peers[i]:=⟨_,rfl⟩
 rw[←hp']at i0;simp only[au,Aaa,Aab,yM,qe,lB,bN,i0];refine al.val (by simp only[EO]) (Xf _ _) ?_;simp only[au,Aaa,Aab,yM,qe,lB,bN,Ih];refine al.own (by simp only[EO]) (aI (aM.fk (aF.bO true (vv p)) (IY Hi p)) (aI (.same _) aZ)) (LM true (vv p) (by simp[aF.ok,vv]) 0) ?_;rintro _ H3 fr;replace fr:aX Hi _ _ _:=fr;obtain⟨row,fr',rfl,o3,n3,b3,e3⟩:=fr.a2 rfl;obtain⟨wX,wQ',wA',fX,fq,fa,rfl,rfl,oX,oQq,oAa⟩:=ck o3;obtain⟨y1,y2,y3,y4⟩:=oX.cell;obtain⟨y5,y6,y7,y8⟩:=oQq.cell;obtain⟨y9,ya,yb,yc⟩:=oAa.cell;have ni':=Aad.1 ni;obtain⟨lk,hlk⟩:∃lk,lk=(jq (vv p) 0).1:=⟨_,rfl⟩
 rw[←hlk]at o3;obtain⟨row,hrow⟩:∃row,row=[AV.int .i64 lk.peer,.bool lk.up,wX,.int .i64 lk.next,wQ',.int .i64 lk.asked,wA']:=⟨_,rfl⟩
 have ltE:∀c∈fE,c<Hi.length:=oE.lt;have ltL:∀c∈fL,c<Hi.length:=oL.lt;have sx:∀(e:List AV) (h:AH),(St.mk e (LL [.int .i64 0,.nils,.nils,.nils,.nils] [.int .i64 id,wE,.nils,wL,.nils] X++[[.int .i64 0,.bool false,.nils,.int .i64 0,.nils,.int .i64 0,.nils]]) h).store (.lp (X.length+2) 0) [.int .i64 lk.peer,.bool lk.up,wX,.int .i64 lk.next,wQ',.int .i64 lk.asked,wA']=some ⟨e,LL [.int .i64 0,.nils,.nils,.nils,.nils] [.int .i64 id,wE,.nils,wL,.nils] X++[[.int .i64 lk.peer,.bool lk.up,wX,.int .i64 lk.next,wQ',.int .i64 lk.asked,wA']],h⟩:=fun e h=>uP (by simp) (by simp only[Aak,Aal,y2,y6,ya];rfl);obtain⟨vL,H4,fL',ea,oL',ndL,hfL,hlL,hmL⟩:=df (bytes:=104) (oL.ext e3) (Aad.2 ⟨ni'.2.1,n3,fun c hc d hd e=>by have:=ltL c hc;have:=b3 d hd;omega⟩) (by omega) (by rfl) o3 (by simp only[Aaj,Aau,aU];omega);obtain⟨j1,j2,j3,j4⟩:=oL'.cell;have s3:∀(e:List AV) (h:AH) (Y:List (List AV)),(St.mk e (LL [.int .i64 0,.nils,.nils,.nils,.nils] [.int .i64 id,wE,.nils,wL,.nils] X++Y) h).store (.lp (([]:List (List AV)).length+1) 3) [vL]=some ⟨e,LL [.int .i64 0,.nils,.nils,.nils,.nils] [.int .i64 id,wE,.nils,vL,.nils] X++Y,h⟩:=fun e h Y=>Es (by simp) (by simp only[Aak,Aal,j2];rfl);have oE4:b9 H4 wE (.sl 12 ((LH script::(peers.take i).map fun p=>lC p 1).map aA.cd)) fE:=(oE.ext e3).frame fun c hc=>hfL c (fun g=>ni'.2.2 c hc c g rfl) (by have:=ltE c hc;have:=e3.len;omega);obtain⟨vE,H5,fE',eb,oE',ndE,hfE,hlE,hmE⟩:=df (bytes:=144) oE4 (f2:=[]) (by simpa using ni'.1) (by omega) (by rfl) (wu H4 p 1) (by simp only[Aag,Aaj,Aau,aU];omega);obtain⟨k1,k2,k3,k4⟩:=oE'.cell;simp only[pG]at eb;have s1:∀(e:List AV) (h:AH) (Y:List (List AV)),(St.mk e (LL [.int .i64 0,.nils,.nils,.nils,.nils] [.int .i64 id,wE,.nils,vL,.nils] X++Y) h).store (.lp (([]:List (List AV)).length+1) 1) [vE]=some ⟨e,LL [.int .i64 0,.nils,.nils,.nils,.nils] [.int .i64 id,vE,.nils,vL,.nils] X++Y,h⟩:=fun e h Y=>Es (by simp) (by simp only[Aak,Aal,k2];rfl);simp only[au,Aaa,Aab,yM,qe,lB,bN,a1,a2,a3,c1,c2,c3,y1,y2,y3,y5,y6,y7,y9,ya,yb,fY,cg,gz,kD,CD.mY,←hlk,sx,ea,j1,j2,j3,s3,i0];refine al.val (by simp only[EO]) (Ks _ _ _) ?_;simp only[au,Aaa,Aab,yM,qe,lB,bN,pG,a1,a2,a3,c1,c2,c3,fY,cg,gz,kD,eb,j1,j2,j3,k1,k2,k3,s1];have he3:=e3.len;have tk:peers.take (i+1)=peers.take i++[p]:=by rw[List.take_succ_eq_append_getElem hlt,hp']
 have nEL:∀c∈fL',c∉fE:=fun c hc g=>by
  have:=ltE c g;rcases hmL c hc with q|q|q
  ·exact ni'.2.2 c g c q rfl
  ·have:=b3 c q;omega
  ·omega
 have oL5:b9 H5 vL (.sl 7 (((peers.take (i+1)).map p0).map aF.cd)) fL':=by
  rw[tk];simp only[Aaq,List.map_cons,List.map_nil];rw[show p0 p=lk from hlk.symm];exact oL'.frame fun c hc=>hfE c (nEL c hc) (oL'.lt c hc)
 have oE5:b9 H5 vE (.sl 12 ((LH script::(peers.take (i+1)).map fun p=>lC p 1).map aA.cd)) fE':=by
  rw[tk];simpa using oE'
 have hi5:∀c,c<h.length→H5[c]? = h[c]?:=fun c hc=>by
  have:=ei.len;rw[hfE c (fun g=>by have:=bi c (Aam _ g);omega) (by omega),hfL c (fun g=>by have:=bi c (Aar _ g);omega) (by omega),e3.fr c (by omega),ei.fr c hc]
 have hel:=ei.len;refine⟨(i+1,H5,vE,vL,fE',fL',X++[[.int .i64 lk.peer,.bool lk.up,wX,.int .i64 lk.next,wQ',.int .i64 lk.asked,wA']]),⟨hlt,by simpa using oE5,by simpa using oL5,Aad.2 ⟨ndE,ndL,fun c hc d hd e=>?_⟩,fun c hc=>?_,⟨by show h.length≤H5.length;omega,hi5⟩⟩,by simp only;omega,⟨by rw[wN (by omega)];simp[gW,gM],rfl,rfl⟩⟩
 ·subst e;rcases hmE c hc with q|q|q
  ·exact nEL c hd q
  ·cases q
  ·have:=oL'.lt c hd;omega
 ·simp only at hc;rcases Aaf.1 hc with g|g
  ·rcases hmE c g with q|q|q
   ·exact bi c (Aam _ q)
   ·cases q
   ·omega
  ·rcases hmL c g with q|q|q
   ·exact bi c (Aar _ q)
   ·have:=b3 c q;omega
   ·omega
structure kv (n:Nat) (l:aF):Prop where
 nx:0≤l.next∧l.next≤n
 ak:0≤l.asked∧l.asked≤n
 ex:∀x∈l.exports,1≤x.pos∧x.pos≤l.next∧1≤x.count∧x.count≤n
 nd:l.exports.Pairwise fun x y=>x.pos≠y.pos
 qs:∀q∈l.questions,1≤q.id∧q.id≤l.asked
 le:l.exports.length≤n
 lq:l.questions.length≤n
 la:l.answers.length≤n
theorem kv.mono{n m:Nat}{l:aF}(h:kv n l)(hm:n≤m):kv m l:=
 ⟨⟨h.nx.1,by have:=h.nx.2;omega⟩,⟨h.ak.1,by have:=h.ak.2;omega⟩,fun x hx=>by have:=h.ex x hx;omega,h.nd,h.qs,by have:=h.le;omega,by have:=h.lq;omega,by have:=h.la;omega⟩
theorem kv.ok{n:Nat}{l:aF}(h:kv n l)(hn:n≤1048576):l.ok 1048576:=⟨by have:=h.le;omega,by have:=h.lq;omega,by have:=h.la;omega⟩
theorem wsm{z:Int}(h0:-1000000000≤z)(h1:z≤1000000000):IntKind.i64.wrap z=z:=jO (by omega) (by omega)
theorem Lz{l:List aE}(nd:l.Pairwise fun x y=>x.pos≠y.pos){k:Nat}(hk:k<l.length){y:aE}(hy:y.pos=l[k].pos):(l.set k y).Pairwise fun x y=>x.pos≠y.pos:=by
 rw[List.pairwise_iff_getElem]at nd ⊢;intro i j hi hj hij;have hi':i<l.length:=by simpa using hi
 have hj':j<l.length:=by simpa using hj
 rw[Aav,Aav];split
 ·rename_i e;subst e;split
  ·omega
  ·rw[hy];exact nd k j hi' hj' hij
 ·split
  ·rename_i e;subst e;rw[hy];exact nd i k hi' hj' hij
  ·exact nd i j hi' hj' hij
theorem kv.put{n:Nat}{l:aF}(h:kv n l)(hn:n≤1000)(e:Int):kv (n+1) (jq l e).1:=by
 obtain⟨nx,ak,ex,nd,qs,le,lq,la⟩:=h;rcases iB (fun x:aE=>x.entity == e) l.exports with⟨k,hk,e1,e2,e3⟩|⟨e1,e2,e3⟩
 ·rw[AT hk e1];have hx:=ex _ (Aaw hk);have w:IntKind.i64.wrap (l.exports[k].count+1)=l.exports[k].count+1:=wsm (by omega) (by omega);rw[w];refine⟨⟨nx.1,by simp only;omega⟩,⟨ak.1,by simp only;omega⟩,fun x hx'=>?_,Lz nd hk rfl,qs,by simp only[List.length_set];omega,by simp only;omega,by simp only;omega⟩;rcases Aao hx' with g|g
  ·have:=ex x g;simp only;omega
  ·subst g;simp only;omega
 ·rw[xV e1];have w:IntKind.i64.wrap (l.next+1)=l.next+1:=wsm (by omega) (by omega);rw[w];refine⟨⟨by simp only;omega,by simp only;omega⟩,⟨ak.1,by simp only;omega⟩,fun x hx'=>?_,?_,qs,by simp only[Aae,Aag,Aah];omega,by simp only;omega,by simp only;omega⟩
  ·simp only[Aaf,Aai]at hx';rcases hx' with g|g
   ·have:=ex x g;simp only;omega
   ·subst g;simp only;omega
  ·simp only;rw[List.pairwise_append];refine⟨nd,by simp,fun x hx y hy=>?_⟩;simp only[Aai]at hy;subst hy;have:=ex x hx;simp only;omega
theorem kv.ask{n:Nat}{l:aF}(h:kv n l)(hn:n≤1000)(e:Int):kv (n+1) (lO l e).1:=by
 obtain⟨nx,ak,ex,nd,qs,le,lq,la⟩:=h;have w:IntKind.i64.wrap (l.asked+1)=l.asked+1:=wsm (by omega) (by omega);unfold lO;rw[w];refine⟨⟨nx.1,by simp only;omega⟩,⟨by simp only;omega,by simp only;omega⟩,fun x hx'=>by have:=ex x hx';simp only;omega,nd,fun q hq=>?_,by simp only;omega,by simp only[Aae,Aag,Aah];omega,by simp only;omega⟩;simp only[Aaf,Aai]at hq;rcases hq with g|g
 ·have:=qs q g;simp only;omega
 ·subst g;simp only;omega
theorem kv.rel{n:Nat}{l:aF}(h:kv n l)(hn:n≤1000)(pos c:Int)(hc:c≤1000):kv n (qo l pos c):=by
 have h0:=h;obtain⟨nx,ak,ex,nd,qs,le,lq,la⟩:=h;by_cases hc1:c<1
 ·rw[tQ hc1];exact h0
 rcases iB (fun x:aE=>x.pos == pos) l.exports with⟨k,hk,e1,e2,e3⟩|⟨e1,e2,e3⟩
 ·rw[Eo hc1 hk e1];have hx:=ex _ (Aaw hk);have w:IntKind.i64.wrap (l.exports[k].count-c)=l.exports[k].count-c:=wsm (by omega) (by omega);rw[w];split
  ·refine⟨nx,ak,fun x hx'=>ex x (List.mem_of_mem_eraseIdx hx'),nd.sublist (List.eraseIdx_sublist _ _),qs,?_,lq,la⟩;have:=List.length_eraseIdx_le l.exports k;simp only;omega
  ·refine⟨nx,ak,fun x hx'=>?_,Lz nd hk rfl,qs,by simpa using le,lq,la⟩;rcases Aao hx' with g|g
   ·exact ex x g
   ·subst g;simp only;omega
 ·rw[uH e1];exact h0
theorem kv.ans{n:Nat}{l:aF}(h:kv n l)(q:aB):kv (n+1) { l with answers:=l.answers++[q] }:=by
 obtain⟨nx,ak,ex,nd,qs,le,lq,la⟩:=h;exact⟨⟨nx.1,by simp only;omega⟩,⟨ak.1,by simp only;omega⟩,fun x hx'=>by have:=ex x hx';simp only;omega,nd,qs,by simp only;omega,by simp only;omega,by simp only[Aae,Aag,Aah];omega⟩
theorem kv.zero(p:Int):kv 0 ⟨p,true,[],0,[],0,[]⟩:=⟨by simp,by simp,by simp,by simp,by simp,by simp,by simp,by simp⟩
end Go.Proofs.YtolciaflplefcaaGreat
