import Derived.Test.YtccjhmhkfnnmaaaGreatR6VR
import Derived.Test.YtccjhmhkfnnmaaaGreatAmG12
import Derived.Test.YtccjhmhkfnnmaaaGreatR6G16
import Derived.Test.YtccjhmhkfnnmaaaGreatR6G18
set_option linter.unusedVariables false
set_option linter.unusedSimpArgs false
namespace Go.Proofs.YtccjhmhkfnnmaaaGreat
open Go.AM
variable {Γ:cj}
def Gj:C:=(.seq (.regD pc pH) (.seq (.reg [mF 36 1 4,mL 37 1 36,mF 38 0 3,mS 1 38 37]) (.block 0 (.seq (.reg [mF 40 0 6,mL 41 1 40,mI 42 .eql 41 1,mV 39 42]) (.cond (.t 39) (.seq (.reg [mV 43 0,⟨(some 44),none,.nilchk (.t 43)⟩,mF 45 2 44,mL 46 1 45,mN 47 46,mI 48 .lss 47 60]) (.cond (.t 48) (.seq (.regD pF pj) (.reg [mT 5 true])) .skip)) (.seq (.reg [mF 60 0 6,mL 61 1 60,mI 62 .eql 61 3,mV 59 62]) (.cond (.t 59) (.reg [mV 63 0,mG 64 7 3,mF 65 8 6,mL 66 1 65,mF 67 9 6,mL 68 1 67,mC 69 Fn.Lx [.t 63,.t 64,.t 66,.t 68,.c (.int .i64 0)],mV 5 69]) (.seq (.reg [mF 71 0 6,mL 72 1 71,mI 73 .eql 72 2,mV 74 73,⟨(some 75),(some (3,true)),.fld 3 (.t 6)⟩,⟨(some 76),(some (3,true)),.load 1 false (.t 75)⟩,⟨(some 77),(some (3,true)),.bin .eql (.num) (.t 76) (.c (.int .i64 3))⟩,⟨(some 78),none,.pick (.t 74) (.t 77) (.c (.bool false))⟩,mV 70 78]) (.cond (.t 70) (.seq (.reg [mV 79 0,mG 80 7 3,mF 81 8 6,mL 82 1 81,mF 83 9 6,mL 84 1 83,mC 85 Fn.Lx [.t 79,.t 80,.t 82,.c (.int .i64 0),.t 84],mV 5 85]) (.seq (.reg [mV 86 5]) (.cond (.t 86) (.regD oJ oU) .skip))) (.seq (.reg [mF 106 0 6,mL 107 1 106,mI 108 .eql 107 2,mV 109 108,⟨(some 110),(some (3,true)),.fld 3 (.t 6)⟩,⟨(some 111),(some (3,true)),.load 1 false (.t 110)⟩,⟨(some 112),(some (3,true)),.bin .neq (.num) (.t 111) (.c (.int .i64 2))⟩,⟨(some 113),none,.pick (.t 109) (.t 112) (.c (.bool false))⟩,mV 105 113]) (.cond (.t 105) (.seq (.reg [mF 114 6 6,mL 115 1 114,mN 116 115,mI 117 .lss 116 40]) (.cond (.t 117) (.seq (.regD oY pD) (.reg [mT 5 true])) .skip)) .skip)))))))))))
def G0:C:=(.seq (.regD pl pK) (.cond (.t 27) (Gj) .skip))
theorem Jj:Ib=.seq (.regD oK pv) (.seq (.reg [mT 5 false]) (.seq (G0) (.seq (.reg [mV 131 5,mU 132 131]) (.cond (.t 132) (.regD pL oZ) .skip)))):=rfl
theorem Jm{P:Program}{Θ:mQ}{Γ:cj}{gl:Gl}{a b:C}{Q:AE→St→Prop}{s:St}(R:St→Prop)(h1:aw P Θ Γ gl a (C3 R Q) s)(h2:∀s,R s→aw P Θ Γ gl b Q s):aw P Θ Γ gl a (iz (aw P Θ Γ gl b Q) Q) s:=uw R h1 h2
set_option maxHeartbeats 8000000 in
set_option maxRecDepth 100000 in
theorem TS{n:Nat}(hD:B7 Γ n):B7 Γ (n+1):=by
  intro v s H b f am fs hmu0 hvi hs hw a os ns ds
  have hmu:jj v≤n:=by omega
  clear hmu0
  obtain⟨wE,w2,wL,w4,fE,f2,fL,f4,rfl,o⟩:=a
  obtain⟨wa,rfl,oa⟩:=ml os
  have hE:v.entities.length≤1048576:=by have:=hvi.ents;omega
  have hb:=o.hb
  have bf:=o.bf
  have blt:=o.blt
  have vlt:=o.lt
  have cb:∀(e:List AV) (L:List (List AV)) (off n:Nat),(St.mk e L H).cells (.gp b 0 off) n=sub [.int .i64 v.id,wE,w2,wL,w4] off n:=fun e L off n=>bk hb
  obtain⟨a1,a2,a3,a4⟩:=o.oE.cell
  obtain⟨b1,b2,b3,b4⟩:=o.o2.cell
  obtain⟨c1,c2,c3,c4⟩:=o.oL.cell
  obtain⟨d1,d2,d3,d4⟩:=o.o4.cell
  obtain⟨g1,g2,g3,g4⟩:=oa.cell
  obtain⟨_,lE⟩:=dE o.oE
  obtain⟨_,l2⟩:=dE o.o2
  rw[List.length_map]at lE l2
  refine P7 (aD aJ aK [] _ _ _ ?_)
  rw[Om]
  unfold F5
  simp only[EZ,ag,Nat.reduceAdd,Nat.reduceBEq,gn,cP,cO,cG,cH,cN,cM,cE,aF,aP,ER,EF,g1,g2,g3]
  rw[Jj]
  obtain⟨y,hy⟩:∃y,y=kU v s:=⟨_,rfl⟩
  have hy':eK v ⟨1,s.target⟩=y:=by rw[hy];rfl
  obtain⟨R1,hR1⟩:∃R:St→Prop,R=fun zst=>∃g:Nat→AV,zst=⟨(List.range 138).map g,([]:List (List AV))++[[.int .i64 s.target,.str s.name,wa,.int .i64 s.result,.int .i64 s.tag.vat,.int .i64 s.tag.entity,.int .i64 s.tag.seq]]++[[.int .i64 y.kind,.int .i64 y.n]],H⟩∧(g 0=.gp b 0 0∧g 3=(.lp ([]:List (List AV)).length 0)∧g 4=(.lp (([]:List (List AV)).length+1) 0)):=⟨_,rfl⟩
  refine uw R1 ?_ ?_
  · simp only[EZ,ag,Nat.reduceAdd,Nat.reduceBEq,gn,cP,cO,cG,cH,cN,cM,cE,aF,aP,ER,EF,cb,a1,a2,a3,b1,b2,b3,c1,c2,c3,d1,d2,d3,g1,g2,g3,gQ]
    repeat' (first
      | (guard_target =~ Mem _ _;first|exact Mem.loc ⟨_,([]:List (List AV))++[_],_⟩ _ [_]|exact Mem.loc ⟨_,([]:List (List AV))++[_]++[_],_⟩ _ [_]|exact eg.mem _ _ _)
      | (guard_target =~ fY _ _ _;first|exact eN rfl|exact g6 (L':=[_]) rfl)
      | (guard_target =~ ah _ _ Fn.Eo _ _ _
         refine ah.val (by simp only[EO]) (sZ _ _) ?_
         simp only[EZ,ag,Nat.reduceAdd,Nat.reduceBEq,gn,cP,cO,cG,cH,cN,cM,cE,aF,aP,ER,EF,ar.c,cb,a1,a2,a3,b1,b2,b3,c1,c2,c3,d1,d2,d3,g1,g2,g3,gQ])
      | (guard_target =~ ah _ _ Fn.vd _ _ _
         refine ah.dT (by simp only[EO,a3,b3,c3,d3]) (aI (aO.dT (aA.bM true v) o.own) (aI (.same _) bm)) (fun h=>mJ true v hE ⟨1,s.target⟩ h) (.agg _ (by intro z hz;simp only[ar.c,List.mem_cons,List.not_mem_nil,or_false]at hz;rcases hz with rfl|rfl<;>exact .int _ _)) ?_
         rw[hy']
         simp only[EZ,ag,Nat.reduceAdd,Nat.reduceBEq,gn,cP,cO,cG,cH,cN,cM,cE,aF,aP,ER,EF,ar.c,cb,a1,a2,a3,b1,b2,b3,c1,c2,c3,d1,d2,d3,g1,g2,g3,gQ])
      | (rw[hR1];exact⟨kD _,k5 rfl,⟨rfl,rfl,rfl⟩⟩)
      | refine And.intro ?_ ?_)
  intro zst hzst
  rw[hR1]at hzst
  clear hR1
  obtain⟨g,rfl,⟨eg0,eg3,eg4⟩⟩:=hzst
  rw[show(List.range 138).map g=g 0::g 1::g 2::g 3::g 4::g 5::g 6::g 7::g 8::g 9::g 10::g 11::g 12::g 13::g 14::g 15::g 16::g 17::g 18::g 19::g 20::g 21::g 22::g 23::g 24::g 25::g 26::g 27::g 28::g 29::g 30::g 31::g 32::g 33::g 34::g 35::g 36::g 37::g 38::g 39::g 40::g 41::g 42::g 43::g 44::g 45::g 46::g 47::g 48::g 49::g 50::g 51::g 52::g 53::g 54::g 55::g 56::g 57::g 58::g 59::g 60::g 61::g 62::g 63::g 64::g 65::g 66::g 67::g 68::g 69::g 70::g 71::g 72::g 73::g 74::g 75::g 76::g 77::g 78::g 79::g 80::g 81::g 82::g 83::g 84::g 85::g 86::g 87::g 88::g 89::g 90::g 91::g 92::g 93::g 94::g 95::g 96::g 97::g 98::g 99::g 100::g 101::g 102::g 103::g 104::g 105::g 106::g 107::g 108::g 109::g 110::g 111::g 112::g 113::g 114::g 115::g 116::g 117::g 118::g 119::g 120::g 121::g 122::g 123::g 124::g 125::g 126::g 127::g 128::g 129::g 130::g 131::g 132::g 133::g 134::g 135::g 136::g 137::[] from rfl]
  simp only[eg0,eg3,eg4]
  simp only[EZ,ag,Nat.reduceAdd,Nat.reduceBEq,gn,cP,cO,cG,cH,cN,cM,cE,aF,aP,ER,EF]
  obtain⟨F,hF⟩:∃F:Nat→Prop,F=fun c=>c∈gB fE f2 fL f4∨c∈fs:=⟨_,rfl⟩
  obtain⟨R2,hR2⟩:∃R:St→Prop,R=fun zst=>∃ok H' tt X,∃g:Nat→AV,zst=⟨(List.range 138).map g,([]:List (List AV))++([.int .i64 tt,.str s.name,wa,.int .i64 s.result,.int .i64 s.tag.vat,.int .i64 s.tag.entity,.int .i64 s.tag.seq]::X),H'⟩∧(g 0=.gp b 0 0∧g 3=(.lp ([]:List (List AV)).length 0)∧g 5=.bool ok)∧((ok=true∧gU H b F H' (cn (n+1) v s))∨(ok=false∧gU H b F H' v∧cn (n+1) v s=hP (cn n) v s.result c6)):=⟨_,rfl⟩
  refine Jm R2 ?_ ?_
  · unfold G0
    have upv:gU H b F H v:=gU.refl o.at fun c hc=>by rw[hF];exact .inl hc
    cases e1:(decide (y.kind=1) && dU y.n v.entities.length)
    · have ef:cn (n+1) v s=hP (cn n) v s.result c6:=by rw[cn,←hy,if_neg (by rw[e1];simp)]
      by_cases q1:y.kind=1
      · have e2:dU y.n v.entities.length=false:=by rw[decide_eq_true q1]at e1;simpa using e1
        simp only[EZ,ag,Nat.reduceAdd,Nat.reduceBEq,gn,cP,cO,cG,cH,cN,cM,cE,aF,aP,ER,EF,cb,a1,a2,a3,b1,b2,b3,c1,c2,c3,d1,d2,d3,g1,g2,g3,lE,l2,an,ae,gQ,decide_eq_true q1]
        refine ah.val (by simp only[EO]) (dH _ _ _ _) ?_
        rw[dF _ hE,e2]
        simp only[EZ,ag,Nat.reduceAdd,Nat.reduceBEq,gn,cP,cO,cG,cH,cN,cM,cE,aF,aP,ER,EF,cb,a1,a2,a3,b1,b2,b3,c1,c2,c3,d1,d2,d3,g1,g2,g3,lE,l2,an,ae,gQ]
        (rw[hR2];exact⟨false,H,s.target,[[.int .i64 y.kind,.int .i64 y.n]],kD _,k5 rfl,⟨rfl,rfl,rfl⟩,.inr ⟨rfl,upv,ef⟩⟩)
      · simp only[EZ,ag,Nat.reduceAdd,Nat.reduceBEq,gn,cP,cO,cG,cH,cN,cM,cE,aF,aP,ER,EF,cb,a1,a2,a3,b1,b2,b3,c1,c2,c3,d1,d2,d3,g1,g2,g3,lE,l2,an,ae,gQ,decide_eq_false q1]
        (rw[hR2];exact⟨false,H,s.target,[[.int .i64 y.kind,.int .i64 y.n]],kD _,k5 rfl,⟨rfl,rfl,rfl⟩,.inr ⟨rfl,upv,ef⟩⟩)
    have e1':=Bool.and_eq_true_iff.1 e1
    have q1:y.kind=1:=by simpa using e1'.1
    have e2:=e1'.2
    obtain⟨k,hk,ek,ek2,eA⟩:=gg e2
    obtain⟨r,hr⟩:∃r,r=aT v y.n:=⟨_,rfl⟩
    have eD:=cn.eq_2 v s n
    rw[←hy,if_pos e1,←hr]at eD
    rw[←hr]at eA
    obtain⟨bR,gR,nR,row,fR,iR,rR,lR,oR,nfR,sR,bmR,bnR,wrR⟩:=o.iy hk
    rw[←eA]at oR
    obtain⟨wS,wQ,wA,fS,fQ,fA,rfl,rfl,oS,oQ,oA⟩:=et oR
    obtain⟨x1,x2,x3,x4⟩:=oS.cell
    obtain⟨x5,x6,x7,x8⟩:=oQ.cell
    obtain⟨x9,xa,xb,xc⟩:=oA.cell
    obtain⟨_,lQ⟩:=dE oQ
    rw[List.length_map]at lQ
    have ost:aO H [.int .i64 y.n,.str s.name,wa,.int .i64 s.result,.int .i64 s.tag.vat,.int .i64 s.tag.entity,.int .i64 s.tag.seq] (py v s).cd fs:=by
      have:=uq (s:=py v s) oa
      rw[show(py v s).target=y.n by rw[hy];rfl]at this
      exact this
    simp only[EZ,ag,Nat.reduceAdd,Nat.reduceBEq,gn,cP,cO,cG,cH,cN,cM,cE,aF,aP,ER,EF,cb,a1,a2,a3,b1,b2,b3,c1,c2,c3,d1,d2,d3,g1,g2,g3,lE,l2,an,ae,gQ,decide_eq_true q1]
    refine ah.val (by simp only[EO]) (dH _ _ _ _) ?_
    rw[dF _ hE,e2]
    simp only[EZ,ag,Nat.reduceAdd,Nat.reduceBEq,gn,cP,cO,cG,cH,cN,cM,cE,aF,aP,ER,EF,cb,a1,a2,a3,b1,b2,b3,c1,c2,c3,d1,d2,d3,g1,g2,g3,lE,l2,an,ae,gQ]
    unfold Gj
    rw[ek]
    simp only[EZ,ag,Nat.reduceAdd,Nat.reduceBEq,gn,cP,cO,cG,cH,cN,cM,cE,aF,aP,ER,EF,cb,a1,a2,a3,b1,b2,b3,c1,c2,c3,d1,d2,d3,g1,g2,g3,lE,l2,an,ae,gQ,iR,rR,x1,x2,x3,x5,x6,x7,x9,xa,xb,lQ]
    refine⟨Mem.loc ⟨_,([]:List (List AV))++[_,_],_⟩ _ [_],?_⟩
    rw[ek]at ost
    by_cases k1:r.kind=1
    · rw[if_pos k1]at eD
      simp only[EZ,ag,Nat.reduceAdd,Nat.reduceBEq,gn,cP,cO,cG,cH,cN,cM,cE,aF,aP,ER,EF,cb,a1,a2,a3,b1,b2,b3,c1,c2,c3,d1,d2,d3,g1,g2,g3,lE,l2,an,ae,gQ,iR,rR,x1,x2,x3,x5,x6,x7,x9,xa,xb,lQ,decide_eq_true k1]
      by_cases t60:v.loop.length<60
      rotate_left
      · rw[if_neg t60]at eD
        simp only[EZ,ag,Nat.reduceAdd,Nat.reduceBEq,gn,cP,cO,cG,cH,cN,cM,cE,aF,aP,ER,EF,cb,a1,a2,a3,b1,b2,b3,c1,c2,c3,d1,d2,d3,g1,g2,g3,lE,l2,an,ae,gQ,iR,rR,x1,x2,x3,x5,x6,x7,x9,xa,xb,lQ,decide_eq_false (show ¬((v.loop.length:Int)<60)by omega)]
        (rw[hR2];exact⟨false,H,(k:Int),[[.int .i64 y.kind,.int .i64 (k:Int)],_],kD _,k5 rfl,⟨rfl,rfl,rfl⟩,.inr ⟨rfl,upv,eD⟩⟩)
      · rw[if_pos t60]at eD
        have nd2:(f2++fs).Nodup:=List.nodup_append.2 ⟨o.n2,ns,fun x hx y hy e=>(ds y hy).1 (bU.2 (.inr (.inl (e▸hx))))⟩
        obtain⟨v',H1,f2',ea,o',nd',hf',hl',hm'⟩:=dw (bytes:=80) o.o2 nd2 (by omega) rfl ost (by simp only[List.length_map,aU];omega)
        obtain⟨j1,j2,j3,j4⟩:=o'.cell
        have hb1:bJ H1 b=some (0,[.int .i64 v.id,wE,w2,wL,w4]):=by rw[bO (hf' b o.b2 blt)];exact hb
        obtain⟨H2,s2,hb2,l2',r2⟩:=Db hb1 (i:=2) (w:=v') (by simp) j3
        simp only[EZ,ag,Nat.reduceAdd,Nat.reduceBEq,gn,cP,cO,cG,cH,cN,cM,cE,aF,aP,ER,EF,cb,a1,a2,a3,b1,b2,b3,c1,c2,c3,d1,d2,d3,g1,g2,g3,lE,l2,an,ae,gQ,iR,rR,x1,x2,x3,x5,x6,x7,x9,xa,xb,lQ,EA,decide_eq_true (show((v.loop.length:Int)<60)by omega),ea,j1,j2,j3,s2]
        repeat' (first
          | (guard_target =~ Mem _ _;first|exact Mem.loc ⟨_,([]:List (List AV))++[_],_⟩ _ [_]|exact Mem.heap ⟨_,_,_⟩ _ _)
          | (guard_target =~ fY _ _ _;first|exact eN rfl|exact g6 (L':=[_]) rfl)
          | refine And.intro ?_ ?_)
        have o2:=o.Wc (G:=fs) (l':=v.loop++[py v s]) (f2':=f2') hb2 ((by rw[List.map_append];exact o':bN H1 v' (.sl 7 ((v.loop++[py v s]).map aX.cd)) f2').frame fun c hc=>r2 c (fun e=>by
          subst e
          rcases hm' c hc with g|g|g
          · exact o.b2 g
          · exact(ds c g).2 rfl
          · omega)) nd' hm' ds (by omega) (fun c h1 h2 h3 h4=>by rw[r2 c h3,hf' c h1 h4])
        have fin:gU H b F H2 { v with loop:=v.loop++[py v s] }:=o2.up (by omega) (fun c hc=>by
          rw[hF]
          rcases bU.1 hc with g|g|g|g
          · exact .inl (.inl (bU.2 (.inl g)))
          · rcases hm' c g with q|q|q
            · exact .inl (.inl (bU.2 (.inr (.inl q))))
            · exact .inl (.inr q)
            · exact .inr q
          · exact .inl (.inl (bU.2 (.inr (.inr (.inl g)))))
          · exact .inl (.inl (bU.2 (.inr (.inr (.inr g)))))) (fun c h1 h2 h3=>by rw[hF]at h1;rw[r2 c h2,hf' c (fun h=>h1 (.inl (bU.2 (.inr (.inl h))))) h3])
        rw[←eD]at fin
        (rw[hR2];exact⟨true,H2,(k:Int),[[.int .i64 y.kind,.int .i64 (k:Int)],_],kD _,k5 rfl,⟨rfl,rfl,rfl⟩,.inl ⟨rfl,fin⟩⟩)
    rw[if_neg k1]at eD
    by_cases k3:r.kind=3
    · rw[if_pos k3]at eD
      simp only[EZ,ag,Nat.reduceAdd,Nat.reduceBEq,gn,cP,cO,cG,cH,cN,cM,cE,aF,aP,ER,EF,cb,a1,a2,a3,b1,b2,b3,c1,c2,c3,d1,d2,d3,g1,g2,g3,lE,l2,an,ae,gQ,iR,rR,x1,x2,x3,x5,x6,x7,x9,xa,xb,lQ,decide_eq_false k1,decide_eq_true k3]
      refine ah.ref (by simp only[EO,g3,g4]) (K2 hD v (py v s) r.peer r.pos 0 hmu hvi hs hw H o.at ost ns ds) ?_
      rintro _ H1 ⟨rfl,u1⟩
      simp only[EZ,ag,Nat.reduceAdd,Nat.reduceBEq,gn,cP,cO,cG,cH,cN,cM,cE,gQ]
      cases co:hQ v (py v s) r.peer
      · rw[if_neg (by rw[co];simp)]at eD
        have u2:gU H b F H1 v:=by
          rw[gW,if_neg (by rw[co];simp)]at u1
          rw[hF];exact u1
        (rw[hR2];exact⟨false,H1,(k:Int),[[.int .i64 y.kind,.int .i64 (k:Int)],_],kD _,k5 rfl,⟨rfl,rfl,rfl⟩,.inr ⟨rfl,u2,eD⟩⟩)
      · rw[if_pos co]at eD
        have u2:gU H b F H1 (cn (n+1) v s):=by rw[eD,hF];exact u1
        (rw[hR2];exact⟨true,H1,(k:Int),[[.int .i64 y.kind,.int .i64 (k:Int)],_],kD _,k5 rfl,⟨rfl,rfl,rfl⟩,.inl ⟨rfl,u2⟩⟩)
    rw[if_neg k3]at eD
    by_cases k2:r.kind=2
    rotate_left
    · rw[if_neg k2]at eD
      simp only[EZ,ag,Nat.reduceAdd,Nat.reduceBEq,gn,cP,cO,cG,cH,cN,cM,cE,aF,aP,ER,EF,cb,a1,a2,a3,b1,b2,b3,c1,c2,c3,d1,d2,d3,g1,g2,g3,lE,l2,an,ae,gQ,iR,rR,x1,x2,x3,x5,x6,x7,x9,xa,xb,lQ,decide_eq_false k1,decide_eq_false k3,decide_eq_false k2]
      (rw[hR2];exact⟨false,H,(k:Int),[[.int .i64 y.kind,.int .i64 (k:Int)],_],kD _,k5 rfl,⟨rfl,rfl,rfl⟩,.inr ⟨rfl,upv,eD⟩⟩)
    rw[if_pos k2]at eD
    by_cases s3:r.state=3
    · rw[if_pos s3]at eD
      simp only[EZ,ag,Nat.reduceAdd,Nat.reduceBEq,gn,cP,cO,cG,cH,cN,cM,cE,aF,aP,ER,EF,cb,a1,a2,a3,b1,b2,b3,c1,c2,c3,d1,d2,d3,g1,g2,g3,lE,l2,an,ae,gQ,iR,rR,x1,x2,x3,x5,x6,x7,x9,xa,xb,lQ,decide_eq_false k1,decide_eq_false k3,decide_eq_true k2,decide_eq_true s3]
      refine ah.ref (by simp only[EO,g3,g4]) (K2 hD v (py v s) r.peer 0 r.pos hmu hvi hs hw H o.at ost ns ds) ?_
      rintro _ H1 ⟨rfl,u1⟩
      simp only[EZ,ag,Nat.reduceAdd,Nat.reduceBEq,gn,cP,cO,cG,cH,cN,cM,cE,gQ]
      cases co:hQ v (py v s) r.peer
      · rw[if_neg (by rw[co];simp)]at eD
        have u2:gU H b F H1 v:=by
          rw[gW,if_neg (by rw[co];simp)]at u1
          rw[hF];exact u1
        simp only[EZ,ag,Nat.reduceAdd,Nat.reduceBEq,gn,cP,cO,cG,cH,cN,cM,cE,gQ]
        (rw[hR2];exact⟨false,H1,(k:Int),[[.int .i64 y.kind,.int .i64 (k:Int)],_],kD _,k5 rfl,⟨rfl,rfl,rfl⟩,.inr ⟨rfl,u2,eD⟩⟩)
      rw[if_pos co]at eD
      have ckl:=(AQ (iI n) v (py v s) r.peer 0 r.pos).1
      obtain⟨v1,hv1⟩:∃v1,v1=gW (cn n) v (py v s) r.peer 0 r.pos:=⟨_,rfl⟩
      rw[←hv1]at ckl eD u1
      clear hv1
      obtain⟨f1,⟨wE1,w21,wL1,w41,fE1,f21,fL1,f41,rfl,o1⟩,l1,m1,r1⟩:=u1
      have hk1:k<v1.entities.length:=by omega
      have eA1:aT v1 y.n=v1.entities[k]:=by simp[aT,ek,List.getD_eq_getElem?_getD,hk1]
      obtain⟨e1,he1⟩:∃e1,e1=aT v1 y.n:=⟨_,rfl⟩
      rw[←he1]at eA1 eD
      have hb1:=o1.hb
      have cb1:∀(e:List AV) (L:List (List AV)) (off n:Nat),(St.mk e L H1).cells (.gp b 0 off) n=sub [.int .i64 v1.id,wE1,w21,wL1,w41] off n:=fun e L off n=>bk hb1
      obtain⟨aa1,aa2,aa3,aa4⟩:=o1.oE.cell
      obtain⟨bS,gS,nS,row2,fT,iS,rS,lS,oS2,nfT,sT,bmS,bnS,wrS⟩:=o1.iy hk1
      rw[←eA1]at oS2
      obtain⟨wS2,wQ2,wA2,fS2,fQ2,fA2,rfl,rfl,oSS,oQQ,oAA⟩:=et oS2
      obtain⟨rd2,H2,f2',s2,l2'',r2,o2,m2⟩:=wrS H1 10 [.int .i64 (IntKind.i64.wrap (e1.count+1))] (gv e1) (fS2++(fQ2++fA2)) [] (Nat.le_refl _) (fun c hc=>by cases hc) (fun _ _ _ _=>rfl) (by simp) rfl
        (by
          have:=iQ (e:=gv e1) oSS oQQ oAA
          exact this) nfT (fun c hc=>.inl hc)
      have rd10:∀(e:List AV) (L:List (List AV)),(St.mk e L H1).cells (.gp bS gS (nS+10)) 1=some [.int .i64 e1.count]:=fun e L=>(rd2 e L 10 1).resolve_right (by omega)
      simp only[EZ,ag,Nat.reduceAdd,Nat.reduceBEq,gn,cP,cO,cG,cH,cN,cM,cE,aF,aP,EF,cb1,aa1,aa2,aa3,iS,rd10,s2,gQ]
      have ev:({ v1 with entities:=v1.entities.set k (gv e1) }:aA)=cn (n+1) v s:=by rw[eD,fI,ek2]
      rw[ev]at o2
      have u2:gU H b F H2 (cn (n+1) v s):=⟨f2',o2,by omega,fun c hc=>by
        have:c∈gB fE1 f21 fL1 f41:=by
          rcases m2 c hc with⟨g,_⟩|g
          · exact g
          · exact bU.2 (.inl (sT c g))
        rw[hF];exact m1 c this,fun c h1 h2 h3=>by
        rw[hF]at h1
        rw[r2 c (fun e=>by
          have:c∈gB fE1 f21 fL1 f41:=bU.2 (.inl (e▸bmS))
          rcases m1 c this with q|q
          · exact h1 q
          · omega),r1 c h1 h2 h3]⟩
      (rw[hR2];exact⟨true,H2,(k:Int),[[.int .i64 y.kind,.int .i64 (k:Int)],_],kD _,k5 rfl,⟨rfl,rfl,rfl⟩,.inl ⟨rfl,u2⟩⟩)
    rw[if_neg s3]at eD
    by_cases s2:r.state=2
    · rw[if_pos s2]at eD
      simp only[EZ,ag,Nat.reduceAdd,Nat.reduceBEq,gn,cP,cO,cG,cH,cN,cM,cE,aF,aP,ER,EF,cb,a1,a2,a3,b1,b2,b3,c1,c2,c3,d1,d2,d3,g1,g2,g3,lE,l2,an,ae,gQ,iR,rR,x1,x2,x3,x5,x6,x7,x9,xa,xb,lQ,decide_eq_false k1,decide_eq_false k3,decide_eq_true k2,decide_eq_false s3,decide_eq_true s2]
      (rw[hR2];exact⟨false,H,(k:Int),[[.int .i64 y.kind,.int .i64 (k:Int)],_],kD _,k5 rfl,⟨rfl,rfl,rfl⟩,.inr ⟨rfl,upv,eD⟩⟩)
    rw[if_neg s2]at eD
    by_cases t40:r.queue.length<40
    rotate_left
    · rw[if_neg t40]at eD
      simp only[EZ,ag,Nat.reduceAdd,Nat.reduceBEq,gn,cP,cO,cG,cH,cN,cM,cE,aF,aP,ER,EF,cb,a1,a2,a3,b1,b2,b3,c1,c2,c3,d1,d2,d3,g1,g2,g3,lE,l2,an,ae,gQ,iR,rR,x1,x2,x3,x5,x6,x7,x9,xa,xb,lQ,decide_eq_false k1,decide_eq_false k3,decide_eq_true k2,decide_eq_false s3,decide_eq_false s2,decide_eq_false (show ¬((r.queue.length:Int)<40)by omega)]
      (rw[hR2];exact⟨false,H,(k:Int),[[.int .i64 y.kind,.int .i64 (k:Int)],_],kD _,k5 rfl,⟨rfl,rfl,rfl⟩,.inr ⟨rfl,upv,eD⟩⟩)
    rw[if_pos t40]at eD
    obtain⟨nS2,nQA2,dS2⟩:=List.nodup_append.1 nfR
    obtain⟨nQ2,nA2,dQ2⟩:=List.nodup_append.1 nQA2
    have ltR:∀c,c∈fS++(fQ++fA)→c<H.length:=fun c hc=>vlt c (bU.2 (.inl (sR c hc)))
    have nofs:∀c∈fs,c∉fS++(fQ++fA):=fun c hc h=>(ds c hc).1 (bU.2 (.inl (sR c h)))
    obtain⟨v',H8,fp',ea,o8,nd8,hf8,hl8,hm8⟩:=dw (bytes:=80) oQ (List.nodup_append.2 ⟨nQ2,ns,fun x hx y hy e=>nofs y hy (by subst e;simp[hx])⟩) (by omega) rfl ost (by simp only[List.length_map,aU];omega)
    obtain⟨p1,p2,p3,p4⟩:=o8.cell
    have kS:∀c∈fS++fA,H8[c]? = H[c]?:=fun c hc=>by
      refine hf8 c (fun h=>?_) (ltR c (by simp only[List.mem_append]at hc ⊢;exact hc.elim .inl fun h=>.inr (.inr h)))
      rcases List.mem_append.1 hc with q|q
      · exact dS2 c q c (List.mem_append_left _ h) rfl
      · exact dQ2 c h c q rfl
    obtain⟨_,H9,f9,s9,l9,r9,o9,m9⟩:=wrR H8 6 [v'] (vo r (py v s)) (fS++(fp'++fA)) fs hl8 (fun c hc=>ds c hc) (fun c hc hn _=>hf8 c (fun h=>hn (by simp[h])) hc) (by simp)
      (by simp only[jv,jz,p3];rfl)
      (by
        have:=iQ (e:=vo r (py v s)) (oS.frame fun c hc=>kS c (by simp[hc])) (wQ:=v') (fQ:=fp') (by simp only[vo,List.map_append];exact o8) (oA.frame fun c hc=>kS c (by simp[hc]))
        exact this)
      (List.nodup_append.2 ⟨nS2,List.nodup_append.2 ⟨nd8,nA2,fun x hx y hy e=>by
        subst e
        rcases hm8 x hx with g|g|g
        · exact dQ2 x g x hy rfl
        · exact nofs x g (by simp[hy])
        · have:=ltR x (by simp[hy]);omega⟩,fun x hx y hy e=>by
        subst e
        rcases List.mem_append.1 hy with q|q
        · rcases hm8 x q with g|g|g
          · exact dS2 x hx x (by simp[g]) rfl
          · exact nofs x g (by simp[hx])
          · have:=ltR x (by simp[hx]);omega
        · exact dS2 x hx x (by simp[q]) rfl⟩)
      (fun c hc=>by
        simp only[List.mem_append]at hc ⊢
        rcases hc with g|g|g
        · exact .inl (.inl g)
        · rcases hm8 c g with q|q|q
          · exact .inl (.inr (.inl q))
          · exact .inr (.inl q)
          · exact .inr (.inr q)
        · exact .inl (.inr (.inr g)))
    simp only[EZ,ag,Nat.reduceAdd,Nat.reduceBEq,gn,cP,cO,cG,cH,cN,cM,cE,aF,aP,ER,EF,cb,a1,a2,a3,b1,b2,b3,c1,c2,c3,d1,d2,d3,g1,g2,g3,lE,l2,an,ae,gQ,iR,rR,x1,x2,x3,x5,x6,x7,x9,xa,xb,lQ,EA,decide_eq_false k1,decide_eq_false k3,decide_eq_true k2,decide_eq_false s3,decide_eq_false s2,decide_eq_true (show((r.queue.length:Int)<40)by omega),ea,p1,p2,p3,s9]
    have ev:({ v with entities:=v.entities.set k (vo r (py v s)) }:aA)=cn (n+1) v s:=by rw[eD,fI,ek2]
    rw[ev]at o9
    have u2:gU H b F H9 (cn (n+1) v s):=⟨f9,o9,by omega,fun c hc=>by
      rw[hF]
      rcases m9 c hc with⟨g,_⟩|g
      · exact .inl (.inl g)
      · simp only[List.mem_append]at g
        rcases g with q|q|q
        · exact .inl (.inl (bU.2 (.inl (sR c (by simp[q])))))
        · rcases hm8 c q with q|q|q
          · exact .inl (.inl (bU.2 (.inl (sR c (by simp[q])))))
          · exact .inl (.inr q)
          · exact .inr q
        · exact .inl (.inl (bU.2 (.inl (sR c (by simp[q]))))),fun c h1 h2 h3=>by
      rw[hF]at h1
      rw[r9 c (fun e=>h1 (.inl (bU.2 (.inl (e▸bmR))))),hf8 c (fun h=>h1 (.inl (bU.2 (.inl (sR c (by simp[h])))))) h3]⟩
    repeat' (first
      | (guard_target =~ Mem _ _;first|exact Mem.loc ⟨_,([]:List (List AV))++[_],_⟩ _ [_]|exact Mem.heap ⟨_,_,_⟩ _ _)
      | (guard_target =~ fY _ _ _
         refine j9 fun r hr=>?_
         rcases(by simpa using hr:r=120∨r=122)with rfl|rfl
         · exact .inr ⟨b,0,1,rfl,by rw[hf8 b (fun h=>o.bE (sR b (by simp[h]))) blt,List.getElem?_append_left blt]⟩
         · exact .inl ⟨_,_,rfl⟩)
      | (rw[hR2];exact⟨true,H9,(k:Int),[[.int .i64 y.kind,.int .i64 (k:Int)],_],kD _,k5 rfl,⟨rfl,rfl,rfl⟩,.inl ⟨rfl,u2⟩⟩)
      | refine And.intro ?_ ?_)
  intro zst hzst
  rw[hR2]at hzst
  clear hR2
  obtain⟨ok,H',tt,X,g,rfl,⟨eg0,eg3,eg5⟩,fin⟩:=hzst
  rw[show(List.range 138).map g=g 0::g 1::g 2::g 3::g 4::g 5::g 6::g 7::g 8::g 9::g 10::g 11::g 12::g 13::g 14::g 15::g 16::g 17::g 18::g 19::g 20::g 21::g 22::g 23::g 24::g 25::g 26::g 27::g 28::g 29::g 30::g 31::g 32::g 33::g 34::g 35::g 36::g 37::g 38::g 39::g 40::g 41::g 42::g 43::g 44::g 45::g 46::g 47::g 48::g 49::g 50::g 51::g 52::g 53::g 54::g 55::g 56::g 57::g 58::g 59::g 60::g 61::g 62::g 63::g 64::g 65::g 66::g 67::g 68::g 69::g 70::g 71::g 72::g 73::g 74::g 75::g 76::g 77::g 78::g 79::g 80::g 81::g 82::g 83::g 84::g 85::g 86::g 87::g 88::g 89::g 90::g 91::g 92::g 93::g 94::g 95::g 96::g 97::g 98::g 99::g 100::g 101::g 102::g 103::g 104::g 105::g 106::g 107::g 108::g 109::g 110::g 111::g 112::g 113::g 114::g 115::g 116::g 117::g 118::g 119::g 120::g 121::g 122::g 123::g 124::g 125::g 126::g 127::g 128::g 129::g 130::g 131::g 132::g 133::g 134::g 135::g 136::g 137::[] from rfl]
  simp only[eg0,eg3,eg5]
  rcases fin with⟨rfl,fin⟩|⟨rfl,up,ef⟩
  · simp only[EZ,ag,Nat.reduceAdd,Nat.reduceBEq,gn,cP,cO,cG,cH,cN,cM,cE,aF,aP,ER,EF]
    rw[hF]at fin
    exact⟨rfl,rfl,fin⟩
  obtain⟨f',a',l',m',r'⟩:=up
  simp only[EZ,ag,Nat.reduceAdd,Nat.reduceBEq,gn,cP,cO,cG,cH,cN,cM,cE,aF,aP,ER,EF]
  refine ah.val (by simp only[EO]) (qD _) ?_
  simp only[EZ,ag,Nat.reduceAdd,Nat.reduceBEq,gn,cP,cO,cG,cH,cN,cM,cE,aF,aP,ER,EF]
  refine ah.ref (by simp only[EO,ar.c]) (GL hD v s.result c6 hmu hvi (by omega) H' a') ?_
  rintro _ H2 ⟨rfl,u2⟩
  simp only[EZ,ag,Nat.reduceAdd,Nat.reduceBEq,gn,cP,cO,cG,cH,cN,cM,cE,aF,aP,ER,EF]
  have fin:=gU.trans l' m' r' u2 (fun c hc=>.inl hc)
  rw[←ef,hF]at fin
  exact⟨rfl,rfl,fin⟩
theorem B9:∀n,B7 Γ n
  | 0=>fun _ _ _ _ _ _ _ h=>absurd h (Nat.not_lt_zero _)
  | n+1=>TS (B9 n)
end Go.Proofs.YtccjhmhkfnnmaaaGreat
namespace Go.Proofs.YtccjhmhkfnnmaaaGreat
open Go.AM
variable {Γ:cj}
def rq(e:aE):aE:={ e with sent:=IntKind.i64.wrap (e.sent+1) }
def lF(v:aA)(t:Int)(name:ByteArray)(args:List ar):aX:=⟨t,name,args,v.entities.length,⟨v.id,t,IntKind.i64.wrap ((aT v t).sent+1)⟩⟩
def mq(v:aA)(t:Int)(name:ByteArray)(args:List ar):Bool:=dU t v.entities.length && (pY name && (decide (args.length≤2) && kI args v.entities.length))
def kf(v:aA):aA:={ v with entities:=v.entities++[gN] }
def eY(v:aA)(t:Int):aA:=fI (kf v) t.toNat (rq (aT v t))
def vX(v:aA)(t:Int)(name:ByteArray)(args:List ar):Bool:=mq v t name args && decide (v.entities.length<200)
def iG(v:aA)(t:Int)(name:ByteArray)(args:List ar):aA×Int:=if vX v t name args=true then (cn (jj (eY v t)+1) (eY v t) (lF v t name args),(v.entities.length:Int))else (v,-1)
theorem BP{t:Int}{n:Nat}(h:dU t n=true):dU t (n+1)=true:=by
  simp only[dU,Bool.and_eq_true,decide_eq_true_eq]at h ⊢;omega
theorem sH{v:aA}{t:Int}(h:dU t v.entities.length=true):aT (kf v) t=aT v t:=by
  obtain⟨k,hk,e1,e2,e3⟩:=gg h
  rw[e3]
  simp only[aT,kf,e2,List.getD_eq_getElem?_getD,List.getElem?_append_left hk,List.getElem?_eq_getElem hk,Option.getD_some]
theorem It(v:aA):wV (kf v)=wV v∧(VI v→v.entities.length<200→VI (kf v)):=by
  refine⟨by simp[wV,kf,jB,gN,pq],fun h hl=>⟨by simp only[kf,List.length_append,List.length_cons,List.length_nil];omega,h.loop,h.aq,h.ans,fun e he=>?_,h.lps,h.outs⟩⟩
  rcases List.mem_append.1 he with g|g
  · exact h.en e g
  · rw[List.mem_singleton.1 g];exact⟨Nat.zero_le _,fun s hs=>by simp[gN]at hs⟩
theorem Dt{v:aA}{t:Int}(h:dU t v.entities.length=true):wV (eY v t)=wV v∧(VI v→v.entities.length<200→VI (eY v t)):=by
  have h':dU t (kf v).entities.length=true:=by
    have:=BP h
    simpa[kf]using this
  have b1:=nu h' (rq (aT v t))
  rw[sH h,(It v).1]at b1
  have g:jB (rq (aT v t))=jB (aT v t):=rfl
  exact⟨by unfold eY;omega,fun hv hl=>j8 ((It v).2 hv hl) _ _ (gj hv t)⟩
theorem sF{v:aA}{t:Int}{name:ByteArray}{args:List ar}(h:vX v t name args=true):dU t v.entities.length=true∧pY name=true∧args.length≤2∧kI args v.entities.length=true∧v.entities.length<200:=by
  simp only[vX,mq,Bool.and_eq_true,decide_eq_true_eq]at h
  exact⟨h.1.1,h.1.2.1,h.1.2.2.1,h.1.2.2.2,h.2⟩
theorem uo{v:ByteArray}(h:pY v=true):v.size≤6:=by
  simp only[pY,Bool.and_eq_true,qe,decide_eq_true_eq]at h
  omega
theorem I4(v:aA)(t:Int)(name:ByteArray)(args:List ar):wV (iG v t name args).1≤wV v+4∧(VI v→VI (iG v t name args).1):=by
  unfold iG
  split
  · rename_i h
    obtain⟨h1,h2,h3,h4,h5⟩:=sF h
    obtain⟨w1,w2⟩:=Dt h1
    have hD:=iI (jj (eY v t)+1)
    refine⟨?_,fun hv=>hD.vi _ _ (w2 hv h5) ⟨by have:=uo h2;show name.size≤100;omega,by show args.length≤100;omega⟩⟩
    have:=hD.w (eY v t) (lF v t name args)
    have e:(lF v t name args).args=args:=rfl
    rw[e]at this
    simp only;omega
  · exact⟨by simp only;omega,id⟩
set_option maxHeartbeats 8000000 in
set_option maxRecDepth 100000 in
theorem TP(v:aA)(t:Int)(name:ByteArray)(args:List ar)(hvi:VI v)(hw:wV v≤400000)(hn:name.size≤1048576)(ha:args.length≤1048576)(β:Bool)(H:AH){b:Nat}{f:List Nat}(a:js H b v f):
    T Tryz.prog Γ Fn.Vr [.gp b 0 0,.int .i64 t,.str name,.vs β 2 false (args.map (ar.c β))] H fun r H'=>r=.int .i64 (iG v t name args).2∧gU H b (fun c=>c∈f) H' (iG v t name args).1:=by
  obtain⟨wE,w2,wL,w4,fE,f2,fL,f4,rfl,o⟩:=a
  have hE:v.entities.length≤1048576:=by have:=hvi.ents;omega
  have L0:=dN β 2 false args (ar.c β)
  have hb:=o.hb
  have bf:=o.bf
  have blt:=o.blt
  have vlt:=o.lt
  have cb:∀(e:List AV) (L:List (List AV)) (off n:Nat),(St.mk e L H).cells (.gp b 0 off) n=sub [.int .i64 v.id,wE,w2,wL,w4] off n:=fun e L off n=>bk hb
  obtain⟨a1,a2,a3,a4⟩:=o.oE.cell
  obtain⟨b1,b2,b3,b4⟩:=o.o2.cell
  obtain⟨c1,c2,c3,c4⟩:=o.oL.cell
  obtain⟨d1,d2,d3,d4⟩:=o.o4.cell
  obtain⟨_,lE⟩:=dE o.oE
  rw[List.length_map]at lE
  have upv:gU H b (fun c=>c∈gB fE f2 fL f4) H v:=gU.refl o.at fun c hc=>hc
  refine TU (aD aJ aK [] _ _ _ ?_)
  unfold Lm
  have bad:mq v t name args=false→iG v t name args=(v,-1):=fun h=>by rw[iG,if_neg (by rw[vX,h];simp)]
  cases e1:dU t v.entities.length
  · rw[bad (by rw[mq,e1];rfl)]
    simp only[EZ,ag,Nat.reduceAdd,Nat.reduceBEq,iF,dW,dZ,aF,aP,ER,EF,cb,a1,a2,a3,b1,b2,b3,c1,c2,c3,d1,d2,d3,lE,L0]
    refine ah.val (by simp only[EO]) (dH _ _ _ _) ?_
    rw[dF _ hE,e1]
    simp only[EZ,ag,Nat.reduceAdd,Nat.reduceBEq,iF,dW,dZ,aF,aP,ER,EF]
    first|exact⟨rfl,rfl,upv⟩|exact⟨rfl,upv⟩|exact upv
  cases e2:pY name
  · rw[bad (by rw[mq,e1,e2];rfl)]
    simp only[EZ,ag,Nat.reduceAdd,Nat.reduceBEq,iF,dW,dZ,aF,aP,ER,EF,cb,a1,a2,a3,b1,b2,b3,c1,c2,c3,d1,d2,d3,lE,L0]
    refine ah.val (by simp only[EO]) (dH _ _ _ _) ?_
    rw[dF _ hE,e1]
    simp only[EZ,ag,Nat.reduceAdd,Nat.reduceBEq,iF,dW,dZ,aF,aP,ER,EF]
    refine ah.val (by simp only[EO]) (yd name hn _) ?_
    rw[e2]
    simp only[EZ,ag,Nat.reduceAdd,Nat.reduceBEq,iF,dW,dZ,aF,aP,ER,EF]
    first|exact⟨rfl,rfl,upv⟩|exact⟨rfl,upv⟩|exact upv
  by_cases e3:args.length≤2
  rotate_left
  · rw[bad (by rw[mq,e1,e2,decide_eq_false e3];rfl)]
    simp only[EZ,ag,Nat.reduceAdd,Nat.reduceBEq,iF,dW,dZ,aF,aP,ER,EF,cb,a1,a2,a3,b1,b2,b3,c1,c2,c3,d1,d2,d3,lE,L0]
    refine ah.val (by simp only[EO]) (dH _ _ _ _) ?_
    rw[dF _ hE,e1]
    simp only[EZ,ag,Nat.reduceAdd,Nat.reduceBEq,iF,dW,dZ,aF,aP,ER,EF]
    refine ah.val (by simp only[EO]) (yd name hn _) ?_
    rw[e2]
    simp only[EZ,ag,Nat.reduceAdd,Nat.reduceBEq,iF,dW,dZ,aF,aP,ER,EF,L0,decide_eq_true (show(args.length:Int)>2 by omega),decide_eq_true (show(2:Int)<(args.length:Int)by omega)]
    first|exact⟨rfl,rfl,upv⟩|exact⟨rfl,upv⟩|exact upv
  cases e4:kI args v.entities.length
  · rw[bad (by rw[mq,e1,e2,decide_eq_true e3,e4];rfl)]
    simp only[EZ,ag,Nat.reduceAdd,Nat.reduceBEq,iF,dW,dZ,aF,aP,ER,EF,cb,a1,a2,a3,b1,b2,b3,c1,c2,c3,d1,d2,d3,lE,L0]
    refine ah.val (by simp only[EO]) (dH _ _ _ _) ?_
    rw[dF _ hE,e1]
    simp only[EZ,ag,Nat.reduceAdd,Nat.reduceBEq,iF,dW,dZ,aF,aP,ER,EF]
    refine ah.val (by simp only[EO]) (yd name hn _) ?_
    rw[e2]
    simp only[EZ,ag,Nat.reduceAdd,Nat.reduceBEq,iF,dW,dZ,aF,aP,ER,EF,cb,a1,a2,a3,lE,L0,decide_eq_false (show ¬(args.length:Int)>2 by omega),decide_eq_false (show ¬(2:Int)<(args.length:Int)by omega)]
    refine ah.val (by simp only[EO]) (MB β args ha _ hE _) ?_
    rw[e4]
    simp only[EZ,ag,Nat.reduceAdd,Nat.reduceBEq,iF,dW,dZ,aF,aP,ER,EF]
    first|exact⟨rfl,rfl,upv⟩|exact⟨rfl,upv⟩|exact upv
  have ok:mq v t name args=true:=by rw[mq,e1,e2,decide_eq_true e3,e4];rfl
  simp only[EZ,ag,Nat.reduceAdd,Nat.reduceBEq,iF,dW,dZ,aF,aP,ER,EF,cb,a1,a2,a3,b1,b2,b3,c1,c2,c3,d1,d2,d3,lE,L0]
  refine ah.val (by simp only[EO]) (dH _ _ _ _) ?_
  rw[dF _ hE,e1]
  simp only[EZ,ag,Nat.reduceAdd,Nat.reduceBEq,iF,dW,dZ,aF,aP,ER,EF]
  refine ah.val (by simp only[EO]) (yd name hn _) ?_
  rw[e2]
  simp only[EZ,ag,Nat.reduceAdd,Nat.reduceBEq,iF,dW,dZ,aF,aP,ER,EF,cb,a1,a2,a3,lE,L0,decide_eq_false (show ¬(args.length:Int)>2 by omega),decide_eq_false (show ¬(2:Int)<(args.length:Int)by omega)]
  refine ah.val (by simp only[EO]) (MB β args ha _ hE _) ?_
  rw[e4]
  simp only[EZ,ag,Nat.reduceAdd,Nat.reduceBEq,iF,dW,dZ,aF,aP,ER,EF]
  refine ah.val (by simp only[EO]) (D8 _) ?_
  simp only[EZ,ag,Nat.reduceAdd,Nat.reduceBEq,iF,dW,dZ,aF,aP,ER,EF]
  refine ah.ref (by simp only[EO,pW]) (Gi v gN H o.at (B3 H) (by simp) (fun c hc=>by cases hc)) ?_
  rintro _ H1 ⟨rfl,u1⟩
  by_cases h2:200≤v.entities.length
  · have en:lO v = -1:=by rw[lO,if_pos h2]
    have ef:fW v gN=v:=by rw[fW,if_pos h2]
    have es:iG v t name args=(v,-1):=by rw[iG,if_neg (by rw[vX,decide_eq_false (by omega)];simp)]
    rw[en,es]
    rw[ef]at u1
    have fin:gU H b (fun c=>c∈gB fE f2 fL f4) H1 v:=gU.mono u1 fun c hc=>hc.elim id fun h=>by cases h
    simp only[EZ,ag,Nat.reduceAdd,Nat.reduceBEq,iF,dW,dZ,aF,aP,ER,EF,show decide ((-1:Int)<0)=true from rfl]
    first|exact⟨rfl,rfl,fin⟩|exact⟨rfl,fin⟩|exact fin
  have en:lO v=(v.entities.length:Int):=by rw[lO,if_neg h2]
  have ef:fW v gN=kf v:=by rw[fW,if_neg h2];rfl
  have es:iG v t name args=(cn (jj (eY v t)+1) (eY v t) (lF v t name args),(v.entities.length:Int)):=by rw[iG,if_pos (by rw[vX,ok,decide_eq_true (by omega)];rfl)]
  rw[es]
  rw[ef]at u1
  obtain⟨f1,⟨wE1,w21,wL1,w41,fE1,f21,fL1,f41,rfl,o1⟩,l1,m1,r1⟩:=u1
  obtain⟨k,hk,ek,ek2,eA⟩:=gg e1
  have hk1:k<(kf v).entities.length:=by simp only[kf,List.length_append];omega
  obtain⟨e,he⟩:∃e,e=aT v t:=⟨_,rfl⟩
  have eA1:e=(kf v).entities[k]:=by rw[he,eA];simp only[kf];rw[List.getElem_append_left hk]
  have hb1:=o1.hb
  have blt1:=o1.blt
  have vlt1:=o1.lt
  have cb1:∀(e:List AV) (L:List (List AV)) (off n:Nat),(St.mk e L H1).cells (.gp b 0 off) n=sub [.int .i64 v.id,wE1,w21,wL1,w41] off n:=fun e L off n=>bk hb1
  obtain⟨aa1,aa2,aa3,aa4⟩:=o1.oE.cell
  obtain⟨bS,gS,nS,row2,fT,iS,rS,lS,oS2,nfT,sT,bmS,bnS,wrS⟩:=o1.iy hk1
  rw[←eA1]at oS2
  obtain⟨wS2,wQ2,wA2,fS2,fQ2,fA2,rfl,rfl,oSS,oQQ,oAA⟩:=et oS2
  obtain⟨rd2,H2,f2',s2,l2'',r2,o2,m2⟩:=wrS H1 11 [.int .i64 (IntKind.i64.wrap (e.sent+1))] (rq e) (fS2++(fQ2++fA2)) [] (Nat.le_refl _) (fun c hc=>by cases hc) (fun _ _ _ _=>rfl) (by simp) rfl
    (by
      have:=iQ (e:=rq e) oSS oQQ oAA
      exact this) nfT (fun c hc=>.inl hc)
  have rd11:∀(e':List AV) (L:List (List AV)),(St.mk e' L H1).cells (.gp bS gS (nS+11)) 1=some [.int .i64 e.sent]:=fun e' L=>(rd2 e' L 11 1).resolve_right (by omega)
  have ev:({ kf v with entities:=(kf v).entities.set k (rq e) }:aA)=eY v t:=by rw[eY,fI,ek2,he]
  rw[ev]at o2
  obtain⟨wE2,w22,wL2,w42,fE2,f22,fL2,f42,rfl,o2⟩:=o2
  have hb2:=o2.hb
  have same:bJ H2 b=bJ H1 b:=bO (r2 b (fun h=>o1.bE (h▸bmS)))
  have vid:(eY v t).id=v.id:=rfl
  have vid1:(kf v).id=v.id:=rfl
  have hh:=hb2
  rw[same,hb1,vid,vid1]at hh
  simp only[Option.some.injEq,Prod.mk.injEq,List.cons.injEq,true_and,and_true]at hh
  obtain⟨rfl,rfl,rfl,rfl⟩:=hh
  have blt2:=o2.blt
  have vlt2:=o2.lt
  rw[vid]at hb2
  have cb2:∀(e:List AV) (L:List (List AV)) (off n:Nat),(St.mk e L H2).cells (.gp b 0 off) n=sub [.int .i64 v.id,wE1,w21,wL1,w41] off n:=fun e L off n=>bk hb2
  have hk2:k<(eY v t).entities.length:=by rw[eY,ie];exact hk1
  have eA2:(eY v t).entities[k]=rq e:=by
    have:(eY v t).entities=(kf v).entities.set k (rq e):=by rw[←ev]
    simp only[this,List.getElem_set_self]
  obtain⟨bT,gT,nT,row3,fU,iT,rT,lT,oT2,nfU,sU,bmT,bnT,wrT⟩:=o2.iy hk2
  rw[iS]at iT
  injection iT with iT
  injection iT with j1 j2 j3
  subst j1 j2 j3
  rw[eA2]at oT2
  obtain⟨rd3,_⟩:=wrT H2 0 [] (rq e) fU [] (Nat.le_refl _) (fun c hc=>by cases hc) (fun _ _ _ _=>rfl) (by simp) rfl (by
    have:cB row3 0 []=row3:=by simp[cB]
    rw[this];exact oT2) nfU (fun c hc=>.inl hc)
  have rd11':∀(e':List AV) (L:List (List AV)),(St.mk e' L H2).cells (.gp bS gS (nS+11)) 1=some [.int .i64 (IntKind.i64.wrap (e.sent+1))]:=fun e' L=>by
    rw[(rd3 e' L 11 1).resolve_right (by omega)]
    obtain⟨_,_,_,_,_,_,rfl,_⟩:=et oT2
    rfl
  obtain⟨w',H3,fw,ea,ow,nw,hf3,hl3,hm3⟩:=kR (bytes:=16) (dK H2 2) (by simp) (by omega) (β:=β) (l:=args) (c:=ar.c β) (fun x=>⟨rfl,rfl⟩) (fun x=>(ar.bM false x).symm) (by simp only[List.length_nil,aU];omega)
  obtain⟨p1,p2,p3,p4⟩:=ow.cell
  simp only[List.length_append,List.length_cons,List.length_nil]at hl3 hf3
  simp only[EZ,ag,Nat.reduceAdd,Nat.reduceBEq,iF,dW,dZ,aF,aP,ER,EF,EA,en,decide_eq_false (show ¬(v.entities.length:Int)<0 by omega),ek,cb1,cb2,aa1,aa2,aa3,iS,rd11,rd11',s2,ea,p1,p2,p3,kb,Aq,A6,At]
  have keep3:∀c,c<H2.length→H3[c]? = H2[c]?:=fun c hc=>by
    rw[hf3 c (by simp only[List.mem_singleton];omega) (by omega),List.getElem?_append_left hc]
  have bS2:bS<H2.length:=vlt2 bS (bU.2 (.inl bmT))
  refine⟨j9 fun r hr=>?_,?_⟩
  · rcases(by simpa using hr:r=69∨r=74∨r=78)with rfl|rfl|rfl
    · exact .inr ⟨b,0,_,rfl,by rw[keep3 b blt2,List.getElem?_append_left blt2]⟩
    · exact .inr ⟨b,0,_,rfl,by rw[keep3 b blt2,List.getElem?_append_left blt2]⟩
    · exact .inr ⟨bS,gS,_,rfl,by rw[keep3 bS bS2,List.getElem?_append_left bS2]⟩
  rw[←ek]
  obtain⟨sk1,sk2⟩:=Dt e1
  have own:aO H3 [.int .i64 t,.str name,w',.int .i64 (v.entities.length:Int),.int .i64 v.id,.int .i64 t,.int .i64 (IntKind.i64.wrap (e.sent+1))] (lF v t name args).cd fw:=by
    have:=uq (s:=lF v t name args) (wa:=w') (f:=fw) (H:=H3) (by rw[List.nil_append]at ow;exact ow)
    rw[he];exact this
  have a3:js H3 b (eY v t) (gB fE2 f22 fL2 f42):=o2.at.frame fun c hc=>keep3 c (by rcases hc with g|g;exact vlt2 c g;rw[g];exact blt2)
  have fwn:∀c∈fw,H2.length≤c:=fun c hc=>by
    rcases hm3 c hc with g|g
    · rw[List.mem_singleton.1 g];exact Nat.le_refl _
    · simp only[List.length_append,List.length_cons,List.length_nil]at g;omega
  refine ah.ref (by simp only[EO,p3,p4]) (B9 (jj (eY v t)+1) (eY v t) (lF v t name args) H3 b _ _ fw (by omega) (sk2 hvi (by omega)) ⟨by have:=uo e2;show name.size≤100;omega,by show args.length≤100;omega⟩ (by show wV (eY v t)+2+args.length≤500000;omega) a3 own nw (fun c hc=>⟨fun h=>by have:=vlt2 c h;have:=fwn c hc;omega,fun h=>by have:=fwn c hc;omega⟩)) ?_
  rintro _ H4 ⟨rfl,f4',o4,l4,m4,r4⟩
  replace o4:js H4 b (cn (jj (eY v t)+1) (eY v t) (lF v t name args)) f4':=o4
  replace l4:H3.length≤H4.length:=l4
  replace m4:∀c∈f4',(c∈gB fE2 f22 fL2 f42∨c∈fw)∨H3.length≤c:=m4
  replace r4:∀c,¬(c∈gB fE2 f22 fL2 f42∨c∈fw)→c≠b→c<H3.length→H4[c]? = H3[c]?:=r4
  have m1':∀c∈gB fE1 f21 fL1 f41,c∈gB fE f2 fL f4∨H.length≤c:=fun c hc=>by
    rcases m1 c hc with(g|g)|g
    · exact .inl g
    · cases g
    · exact .inr g
  have m2':∀c∈gB fE2 f22 fL2 f42,c∈gB fE f2 fL f4∨H.length≤c:=fun c hc=>by
    rcases m2 c hc with⟨g,_⟩|g
    · exact m1' c g
    · exact m1' c (bU.2 (.inl (sT c g)))
  have fin:gU H b (fun c=>c∈gB fE f2 fL f4) H4 (cn (jj (eY v t)+1) (eY v t) (lF v t name args)):=⟨f4',o4,by omega,fun c hc=>by
    rcases m4 c hc with(g|g)|g
    · exact m2' c g
    · exact .inr (by have:=fwn c g;omega)
    · exact .inr (by omega),fun c h1 h2 h3=>by
    rw[r4 c (fun h=>by
      rcases h with g|g
      · rcases m2' c g with q|q
        · exact h1 q
        · omega
      · have:=fwn c g;omega) h2 (by omega),keep3 c (by omega),r2 c (fun h=>by
      rcases m1' c (bU.2 (.inl (h▸bmS)))with q|q
      · exact h1 q
      · omega),r1 c (fun h=>by
      rcases h with g|g
      · exact h1 g
      · cases g) h2 h3]⟩
  simp only[EZ,ag,Nat.reduceAdd,Nat.reduceBEq,iF,dW,dZ,aF,aP,ER,EF]
  first|exact⟨rfl,rfl,fin⟩|exact⟨rfl,fin⟩|exact fin
end Go.Proofs.YtccjhmhkfnnmaaaGreat
namespace Go.Proofs.YtccjhmhkfnnmaaaGreat
open Go.AM
variable {Γ:cj}
theorem tZ{H:AH}{z cells:List AV}(hz:z.length=cells.length)(hn:cells.all bo=true):∃H',(∀(e:List AV) (L:List (List AV)),(St.mk e L (H++[some (0,z)])).store (.gp H.length 0 0) cells=some ⟨e,L,H'⟩)∧bJ H' H.length=some (0,cells)∧H'.length=H.length+1∧∀c,c<H.length→H'[c]? = H[c]?:=by
  obtain⟨H',s,m,l,r⟩:=(pO.nil (cw H (0,z))).store (i:=0) (vs:=cells) (by omega) hn
  refine⟨H',fun e L=>by simpa using s e L,?_,by rw[l];simp,fun c hc=>by rw[r c (by omega),List.getElem?_append_left hc]⟩
  have:=m.eq
  simp only[List.nil_append,List.append_nil]at this
  rw[this]
  simp[cB,←hz]
set_option maxHeartbeats 4000000 in
set_option maxRecDepth 100000 in
theorem SO(β β':Bool)(v:aA)(t:Int)(name:ByteArray)(args:List ar)(hvi:VI v)(hw:wV v≤400000)(hn:name.size≤1048576)(ha:args.length≤1048576)(h:AH):
    T Tryz.prog Γ Fn.Vd [.agg (v.c β),.int .i64 t,.str name,.vs β' 2 false (args.map (ar.c β'))] h (aS h [.a (iG v t name args).1.cd,.c (.i .i64 (iG v t name args).2)]):=by
  refine T.tW rfl ?_
  refine Uq (aD aJ aK [10] _ _ _ ?_)
  unfold Kt
  simp only[EZ,ag,Nat.reduceAdd,Nat.reduceBEq,D0,aF,aP,ER,EF,aA.c]
  refine ah.ref (by simp only[EO]) (Bq β v (hvi.MN.mono (by omega)) _) ?_
  rintro w H1 fr
  replace fr:aS h _ _ _:=fr
  obtain⟨ac,f,rfl,o,nd,bb,eg⟩:=fr.a1
  obtain⟨wE,w2,wL,w4,fE,f2,fL,f4,rfl,rfl,oE,o2,oL,o4⟩:=ju o
  obtain⟨a1,a2,a3,a4⟩:=oE.cell
  obtain⟨b1,b2,b3,b4⟩:=o2.cell
  obtain⟨c1,c2,c3,c4⟩:=oL.cell
  obtain⟨d1,d2,d3,d4⟩:=o4.cell
  obtain⟨H2,s2,hb2,l2,r2⟩:=tZ (H:=H1) (z:=[.int .i64 0,.nils,.nils,.nils,.nils]) (cells:=[.int .i64 v.id,wE,w2,wL,w4]) rfl (by simp only[jv,jz,a3,b3,c3,d3];rfl)
  have lt1:∀c∈fE++(f2++(fL++f4)),c<H1.length:=fun c hc=>o.lt c hc
  have vat2:js H2 H1.length v (fE++(f2++(fL++f4))):=js.of hb2 (o.frame fun c hc=>r2 c (lt1 c hc)) nd (fun hc=>Nat.lt_irrefl _ (lt1 _ hc))
  simp only[EZ,ag,Nat.reduceAdd,Nat.reduceBEq,D0,aF,aP,ER,EF,EA,re _ _ (show List.all [AV.int .i64 0,.nils,.nils,.nils,.nils] bo=true from rfl),g9,a1,a2,a3,b1,b2,b3,c1,c2,c3,d1,d2,d3,s2,ar.c]
  refine ah.ref (by simp only[EO]) (TP v t name args hvi hw hn ha β' H2 vat2) ?_
  rintro _ H3 ⟨rfl,f3,a3v,l3,m3,r3⟩
  replace l3:H2.length≤H3.length:=l3
  replace m3:∀c∈f3,c∈fE++(f2++(fL++f4))∨H2.length≤c:=m3
  replace r3:∀c,¬c∈fE++(f2++(fL++f4))→c≠H1.length→c<H2.length→H3[c]? = H2[c]?:=r3
  obtain⟨wE',w2',wL',w4',fE',f2',fL',f4',rfl,o3⟩:=a3v
  obtain⟨aa1,aa2,aa3,aa4⟩:=o3.oE.cell
  obtain⟨bb1,bb2,bb3,bb4⟩:=o3.o2.cell
  obtain⟨cc1,cc2,cc3,cc4⟩:=o3.oL.cell
  obtain⟨dd1,dd2,dd3,dd4⟩:=o3.o4.cell
  have cb3:∀(e:List AV) (L:List (List AV)) (off n:Nat),(St.mk e L H3).cells (.gp H1.length 0 off) n=sub _ off n:=fun e L off n=>bk o3.hb
  have nd3:=o3.nodup
  have hlen:=eg.len
  have ex3:bQ h H3:=⟨by omega,fun c hc=>by
    rw[r3 c (fun g=>by have:=bb c g;omega) (by omega) (by omega),r2 c (by omega),eg.fr c hc]⟩
  have bb3':∀c∈gB fE' f2' fL' f4',h.length≤c:=fun c hc=>by
    rcases m3 c hc with g|g
    · exact bb c g
    · omega
  have own3:=o3.own
  obtain⟨N,hN⟩:=ex3.out
  simp only[EZ,ag,Nat.reduceAdd,Nat.reduceBEq,D0,aF,aP,ER,EF,EA,cb3,aa1,aa2,aa3,bb1,bb2,bb3,cc1,cc2,cc3,dd1,dd2,dd3]
  exact⟨by first|simp only[List.all_cons,List.all_nil,EO,aa3,aa4,bb3,bb4,cc3,cc4,dd3,dd4]|(simp only[c7,EO,aa3,aa4,bb3,bb4,cc3,cc4,dd3,dd4])|(show eH _=true;simp only[EO,aa3,aa4,bb3,bb4,cc3,cc4,dd3,dd4]),_,N,_,rfl,hN,own3,nd3,bb3'⟩
set_option maxHeartbeats 4000000 in
set_option maxRecDepth 100000 in
theorem P3(β β':Bool)(v:aA)(p:Int)(x:ar)(hvi:VI v)(hw:wV v≤400000)(h:AH):
    T Tryz.prog Γ Fn.U2 [.agg (v.c β),.int .i64 p,.agg (x.c β')] h (aS h [.a (hP (cn (jj v+1)) v p x).cd]):=by
  refine T.jr ?_
  refine Qx (aD aJ aK [7] _ _ _ ?_)
  unfold MZ
  simp only[EZ,ag,Nat.reduceAdd,Nat.reduceBEq,Ei,aF,aP,ER,EF,aA.c,ar.c]
  refine ah.ref (by simp only[EO]) (Bq β v (hvi.MN.mono (by omega)) _) ?_
  rintro w H1 fr
  replace fr:aS h _ _ _:=fr
  obtain⟨ac,f,rfl,o,nd,bb,eg⟩:=fr.a1
  obtain⟨wE,w2,wL,w4,fE,f2,fL,f4,rfl,rfl,oE,o2,oL,o4⟩:=ju o
  obtain⟨a1,a2,a3,a4⟩:=oE.cell
  obtain⟨b1,b2,b3,b4⟩:=o2.cell
  obtain⟨c1,c2,c3,c4⟩:=oL.cell
  obtain⟨d1,d2,d3,d4⟩:=o4.cell
  obtain⟨H2,s2,hb2,l2,r2⟩:=tZ (H:=H1) (z:=[.int .i64 0,.nils,.nils,.nils,.nils]) (cells:=[.int .i64 v.id,wE,w2,wL,w4]) rfl (by simp only[jv,jz,a3,b3,c3,d3];rfl)
  have lt1:∀c∈fE++(f2++(fL++f4)),c<H1.length:=fun c hc=>o.lt c hc
  have vat2:js H2 H1.length v (fE++(f2++(fL++f4))):=js.of hb2 (o.frame fun c hc=>r2 c (lt1 c hc)) nd (fun hc=>Nat.lt_irrefl _ (lt1 _ hc))
  simp only[EZ,ag,Nat.reduceAdd,Nat.reduceBEq,Ei,aF,aP,ER,EF,EA,re _ _ (show List.all [AV.int .i64 0,.nils,.nils,.nils,.nils] bo=true from rfl),g9,a1,a2,a3,b1,b2,b3,c1,c2,c3,d1,d2,d3,s2,ar.c]
  refine ah.ref (by simp only[EO]) (GL (B9 (jj v+1)) v p x (by omega) hvi (by omega) H2 vat2) ?_
  rintro _ H3 ⟨rfl,f3,a3v,l3,m3,r3⟩
  replace l3:H2.length≤H3.length:=l3
  replace m3:∀c∈f3,c∈fE++(f2++(fL++f4))∨H2.length≤c:=m3
  replace r3:∀c,¬c∈fE++(f2++(fL++f4))→c≠H1.length→c<H2.length→H3[c]? = H2[c]?:=r3
  obtain⟨wE',w2',wL',w4',fE',f2',fL',f4',rfl,o3⟩:=a3v
  obtain⟨aa1,aa2,aa3,aa4⟩:=o3.oE.cell
  obtain⟨bb1,bb2,bb3,bb4⟩:=o3.o2.cell
  obtain⟨cc1,cc2,cc3,cc4⟩:=o3.oL.cell
  obtain⟨dd1,dd2,dd3,dd4⟩:=o3.o4.cell
  have cb3:∀(e:List AV) (L:List (List AV)) (off n:Nat),(St.mk e L H3).cells (.gp H1.length 0 off) n=sub _ off n:=fun e L off n=>bk o3.hb
  have nd3:=o3.nodup
  have hlen:=eg.len
  have ex3:bQ h H3:=⟨by omega,fun c hc=>by
    rw[r3 c (fun g=>by have:=bb c g;omega) (by omega) (by omega),r2 c (by omega),eg.fr c hc]⟩
  have bb3':∀c∈gB fE' f2' fL' f4',h.length≤c:=fun c hc=>by
    rcases m3 c hc with g|g
    · exact bb c g
    · omega
  have own3:=o3.own
  obtain⟨N,hN⟩:=ex3.out
  simp only[EZ,ag,Nat.reduceAdd,Nat.reduceBEq,Ei,aF,aP,ER,EF,EA,cb3,aa1,aa2,aa3,bb1,bb2,bb3,cc1,cc2,cc3,dd1,dd2,dd3]
  exact⟨by first|simp only[List.all_cons,List.all_nil,EO,aa3,aa4,bb3,bb4,cc3,cc4,dd3,dd4]|(simp only[c7,EO,aa3,aa4,bb3,bb4,cc3,cc4,dd3,dd4])|(show eH _=true;simp only[EO,aa3,aa4,bb3,bb4,cc3,cc4,dd3,dd4]),_,N,_,rfl,hN,own3,nd3,bb3'⟩
end Go.Proofs.YtccjhmhkfnnmaaaGreat
namespace Go.Proofs.YtccjhmhkfnnmaaaGreat
open Go.AM
variable {Γ:cj}
def G3(script:Int):aE:=eR script []
def jF(peer:Int):aC:=(df (pT peer) 0).1
def eV(id:Int)(peers:List Int)(script:Int):aA:=⟨id,G3 script::peers.map fun p=>jV p 1,[],peers.map jF,[]⟩
set_option maxHeartbeats 4000000 in
set_option maxRecDepth 100000 in
theorem Sz(β:Bool)(id:Int)(peers:List Int)(hp:peers.length≤1000)(script:Int)(h:AH):
    T Tryz.prog Γ Fn.VQ [.int .i64 id,.vs β 1 false (peers.map fun p=>[.int .i64 p]),.int .i64 script] h (aS h [.a (eV id peers script).cd]):=by
  have L0:=dN β 1 false peers fun p=>[AV.int .i64 p]
  refine T.jr ?_
  refine QG (aD aJ aK [] _ _ _ ?_)
  unfold JA
  simp only[EZ,ag,Nat.reduceAdd,Nat.reduceBEq,qH,jO,aF,aP,ER,EF,EA,L0]
  refine ah.own (by simp only[EO]) (aI (.same _) (aI (bN.dT (l:=([]:List ar)) (ar.bM true) (dK h 2)) bm)) (Kd true script [] (by simp)) ?_
  rintro _ H1 fr
  replace fr:aS (h++[some (0,[])]) _ _ _:=fr
  obtain⟨ac,f,rfl,oe,nd,bb,eg⟩:=fr.a1
  obtain⟨wS,wQ,wA,fS,fQ,fA,rfl,rfl,oS,oQ,oA⟩:=et oe
  obtain⟨x1,x2,x3,x4⟩:=oS.cell
  obtain⟨x5,x6,x7,x8⟩:=oQ.cell
  obtain⟨x9,xa,xb,xc⟩:=oA.cell
  obtain⟨l1,r1⟩:=eg
  simp only[List.length_append,List.length_cons,List.length_nil]at l1 r1 bb
  have oE0:=ky H1 (sz:=12) (by rfl) oe
  simp only[EZ,ag,Nat.reduceAdd,Nat.reduceBEq,qH,jO,aF,aP,ER,EF,EA,eR,x1,x2,x3,x5,x6,x7,x9,xa,xb]
  obtain⟨H2,hH2⟩:∃H2,H2=H1++[some (0,[AV.int .i64 (eR script []).kind,.int .i64 (eR script []).script,wS,.int .i64 (eR script []).state,.int .i64 (eR script []).value.kind,.int .i64 (eR script []).value.n,wQ,wA,.int .i64 (eR script []).peer,.int .i64 (eR script []).pos,.int .i64 (eR script []).count,.int .i64 (eR script []).sent])]:=⟨_,rfl⟩
  rw[←hH2]at oE0
  have l2:H2.length=H1.length+1:=by rw[hH2];simp
  have r2:∀c,c<h.length→H2[c]? = h[c]?:=fun c hc=>by
    rw[hH2,List.getElem?_append_left (by omega),r1 c (by omega),List.getElem?_append_left hc]
  have ev2:H1++[some (0,[AV.int .i64 1,.int .i64 script,wS,.int .i64 0,.int .i64 0,.int .i64 0,wQ,wA,.int .i64 0,.int .i64 0,.int .i64 0,.int .i64 0])]=H2:=by rw[hH2];rfl
  try rw[ev2]
  have nd0:(H1.length::(fS++(fQ++fA))).Nodup:=List.nodup_cons.2 ⟨fun hc=>Nat.lt_irrefl _ (oe.lt _ hc),nd⟩
  have bb0:∀c∈H1.length::(fS++(fQ++fA)),h.length≤c:=fun c hc=>by
    rcases List.mem_cons.1 hc with g|g
    · omega
    · have:=bb c g;omega
  refine dD aJ aK [] (fun x:Nat×AH×AV×AV×List Nat×List Nat×List (List AV)=>x.1≤peers.length∧bN x.2.1 x.2.2.1 (.sl 12 ((G3 script::(peers.take x.1).map fun p=>jV p 1).map aE.cd)) x.2.2.2.2.1∧bN x.2.1 x.2.2.2.1 (.sl 7 (((peers.take x.1).map jF).map aC.cd)) x.2.2.2.2.2.1∧(x.2.2.2.2.1++x.2.2.2.2.2.1).Nodup∧(∀c∈x.2.2.2.2.1++x.2.2.2.2.2.1,h.length≤c)∧bQ h x.2.1) (fun x=>peers.length-x.1)
    (fun x=>CU (.vs β 1 false (peers.map fun p=>[.int .i64 p])) (.lp ([]:List (List AV)).length 0) (.lp (([]:List (List AV)).length+1) 0) (.int .i64 x.1) (LL [.int .i64 0,.nils,.nils,.nils,.nils] [.int .i64 id,x.2.2.1,.nils,x.2.2.2.1,.nils] x.2.2.2.2.2.2) x.2.1) (0,H2,.gs H1.length 0 0 1 1 12 true,.nils,H1.length::(fS++(fQ++fA)),[],[])
    ⟨by simp,oE0,.nil 7,by simpa using nd0,by simpa using bb0,⟨by show h.length≤H2.length;omega,r2⟩⟩ ⟨by simp[CU,eP,eM],rfl,rfl⟩ ?_
  clear oE0
  rintro⟨i,Hi,wE,wL,fE,fL,X⟩ ⟨hi,oE,oL,ni,bi,ei⟩
  simp only at hi oE oL ni bi ei
  obtain⟨a1,a2,a3,a4⟩:=oE.cell
  obtain⟨c1,c2,c3,c4⟩:=oL.cell
  simp only[EZ,ag,Nat.reduceAdd,Nat.reduceBEq,qH,jO,CU,aF,aP,ER,EF,EA,L0]
  refine bI (fun hlt=>?_) (fun hge=>?_)
  rotate_left
  · have hge:i=peers.length:=by simp at hge;omega
    subst hge
    rw[List.take_length]at oE oL
    have st0:∀(e:List AV) (h:AH),(St.mk e (LL [.int .i64 0,.nils,.nils,.nils,.nils] [.int .i64 id,wE,.nils,wL,.nils] X) h).store (.lp (([]:List (List AV)).length) 0) [.int .i64 id,wE,.nils,wL,.nils]=some ⟨e,LL [.int .i64 id,wE,.nils,wL,.nils] [.int .i64 id,wE,.nils,wL,.nils] X,h⟩:=fun e h=>tG (by simp) (by simp only[List.all_cons,List.all_nil,a2,c2];rfl)
    simp only[EZ,ag,Nat.reduceAdd,Nat.reduceBEq,qH,jO,aF,aP,ER,EF,EA,a1,a2,a3,c1,c2,c3,aY,cg,st0]
    obtain⟨N,hN⟩:=ei.out
    have own:aO Hi [.int .i64 id,wE,.nils,wL,.nils] (eV id peers script).cd (fE++([]++(fL++([]++[])))):=.i (.o oE (.o (.nil 7) (.o oL (.o (.nil 13) .nil))))
    exact⟨by simp only[c7,EO,a3,a4,c3,c4],_,N,_,rfl,hN,own,by simpa using ni,by simpa using bi⟩
  have hlt:i<peers.length:=by simpa using hlt
  have i0:=dy (β:=β) (sz:=1) (ex:=false) (ce:=fun p=>[AV.int .i64 p]) hlt
  obtain⟨p,hp'⟩:∃p,p=peers[i]:=⟨_,rfl⟩
  rw[←hp']at i0
  simp only[EZ,ag,Nat.reduceAdd,Nat.reduceBEq,qH,jO,aF,aP,ER,EF,EA,i0]
  refine ah.val (by simp only[EO]) (Ui _ _) ?_
  simp only[EZ,ag,Nat.reduceAdd,Nat.reduceBEq,qH,jO,aF,aP,ER,EF,EA,D7]
  refine ah.own (by simp only[EO]) (aI (aO.dT (aC.bM true (pT p)) (Ex Hi p)) (aI (.same _) bm)) (HN true (pT p) (by simp[aC.ok,pT]) 0) ?_
  rintro _ H3 fr
  replace fr:aS Hi _ _ _:=fr
  obtain⟨row,fr',rfl,o3,n3,b3,e3⟩:=fr.a2 rfl
  obtain⟨wX,wQ',wA',fX,fq,fa,rfl,rfl,oX,oQq,oAa⟩:=db o3
  obtain⟨y1,y2,y3,y4⟩:=oX.cell
  obtain⟨y5,y6,y7,y8⟩:=oQq.cell
  obtain⟨y9,ya,yb,yc⟩:=oAa.cell
  have ni':=List.nodup_append.1 ni
  obtain⟨lk,hlk⟩:∃lk,lk=(df (pT p) 0).1:=⟨_,rfl⟩
  rw[←hlk]at o3
  obtain⟨row,hrow⟩:∃row,row=[AV.int .i64 lk.peer,.bool lk.up,wX,.int .i64 lk.next,wQ',.int .i64 lk.asked,wA']:=⟨_,rfl⟩
  have ltE:∀c∈fE,c<Hi.length:=oE.lt
  have ltL:∀c∈fL,c<Hi.length:=oL.lt
  have sx:∀(e:List AV) (h:AH),(St.mk e (LL [.int .i64 0,.nils,.nils,.nils,.nils] [.int .i64 id,wE,.nils,wL,.nils] X++[[.int .i64 0,.bool false,.nils,.int .i64 0,.nils,.int .i64 0,.nils]]) h).store (.lp (X.length+2) 0) [.int .i64 lk.peer,.bool lk.up,wX,.int .i64 lk.next,wQ',.int .i64 lk.asked,wA']=some ⟨e,LL [.int .i64 0,.nils,.nils,.nils,.nils] [.int .i64 id,wE,.nils,wL,.nils] X++[[.int .i64 lk.peer,.bool lk.up,wX,.int .i64 lk.next,wQ',.int .i64 lk.asked,wA']],h⟩:=fun e h=>oq (by simp) (by simp only[List.all_cons,List.all_nil,y2,y6,ya];rfl)
  obtain⟨vL,H4,fL',ea,oL',ndL,hfL,hlL,hmL⟩:=dw (bytes:=104) (oL.ext e3) (List.nodup_append.2 ⟨ni'.2.1,n3,fun c hc d hd e=>by have:=ltL c hc;have:=b3 d hd;omega⟩) (by omega) (by rfl) o3 (by simp only[List.length_map,List.length_take,aU];omega)
  obtain⟨j1,j2,j3,j4⟩:=oL'.cell
  have s3:∀(e:List AV) (h:AH) (Y:List (List AV)),(St.mk e (LL [.int .i64 0,.nils,.nils,.nils,.nils] [.int .i64 id,wE,.nils,wL,.nils] X++Y) h).store (.lp (([]:List (List AV)).length+1) 3) [vL]=some ⟨e,LL [.int .i64 0,.nils,.nils,.nils,.nils] [.int .i64 id,wE,.nils,vL,.nils] X++Y,h⟩:=fun e h Y=>AA (by simp) (by simp only[List.all_cons,List.all_nil,j2];rfl)
  have oE4:bN H4 wE (.sl 12 ((G3 script::(peers.take i).map fun p=>jV p 1).map aE.cd)) fE:=(oE.ext e3).frame fun c hc=>hfL c (fun g=>ni'.2.2 c hc c g rfl) (by have:=ltE c hc;have:=e3.len;omega)
  obtain⟨vE,H5,fE',eb,oE',ndE,hfE,hlE,hmE⟩:=dw (bytes:=144) oE4 (f2:=[]) (by simpa using ni'.1) (by omega) (by rfl) (rK H4 p 1) (by simp only[List.length_cons,List.length_map,List.length_take,aU];omega)
  obtain⟨k1,k2,k3,k4⟩:=oE'.cell
  simp only[kl]at eb
  have s1:∀(e:List AV) (h:AH) (Y:List (List AV)),(St.mk e (LL [.int .i64 0,.nils,.nils,.nils,.nils] [.int .i64 id,wE,.nils,vL,.nils] X++Y) h).store (.lp (([]:List (List AV)).length+1) 1) [vE]=some ⟨e,LL [.int .i64 0,.nils,.nils,.nils,.nils] [.int .i64 id,vE,.nils,vL,.nils] X++Y,h⟩:=fun e h Y=>AA (by simp) (by simp only[List.all_cons,List.all_nil,k2];rfl)
  simp only[EZ,ag,Nat.reduceAdd,Nat.reduceBEq,qH,jO,aF,aP,ER,EF,EA,a1,a2,a3,c1,c2,c3,y1,y2,y3,y5,y6,y7,y9,ya,yb,dv,aY,dB,gz,CD.fb,←hlk,sx,ea,j1,j2,j3,s3,i0]
  refine ah.val (by simp only[EO]) (Gu _ _ _) ?_
  simp only[EZ,ag,Nat.reduceAdd,Nat.reduceBEq,qH,jO,aF,aP,ER,EF,EA,kl,a1,a2,a3,c1,c2,c3,dv,aY,dB,gz,eb,j1,j2,j3,k1,k2,k3,s1]
  have he3:=e3.len
  have tk:peers.take (i+1)=peers.take i++[p]:=by rw[List.take_succ_eq_append_getElem hlt,hp']
  have nEL:∀c∈fL',c∉fE:=fun c hc g=>by
    have:=ltE c g
    rcases hmL c hc with q|q|q
    · exact ni'.2.2 c g c q rfl
    · have:=b3 c q;omega
    · omega
  have oL5:bN H5 vL (.sl 7 (((peers.take (i+1)).map jF).map aC.cd)) fL':=by
    rw[tk]
    simp only[List.map_append,List.map_cons,List.map_nil]
    rw[show jF p=lk from hlk.symm]
    exact oL'.frame fun c hc=>hfE c (nEL c hc) (oL'.lt c hc)
  have oE5:bN H5 vE (.sl 12 ((G3 script::(peers.take (i+1)).map fun p=>jV p 1).map aE.cd)) fE':=by
    rw[tk]
    simpa using oE'
  have hi5:∀c,c<h.length→H5[c]? = h[c]?:=fun c hc=>by
    have:=ei.len
    rw[hfE c (fun g=>by have:=bi c (List.mem_append_left _ g);omega) (by omega),hfL c (fun g=>by have:=bi c (List.mem_append_right _ g);omega) (by omega),e3.fr c (by omega),ei.fr c hc]
  have hel:=ei.len
  refine⟨(i+1,H5,vE,vL,fE',fL',X++[[.int .i64 lk.peer,.bool lk.up,wX,.int .i64 lk.next,wQ',.int .i64 lk.asked,wA']]),⟨hlt,by simpa using oE5,by simpa using oL5,List.nodup_append.2 ⟨ndE,ndL,fun c hc d hd e=>?_⟩,fun c hc=>?_,⟨by show h.length≤H5.length;omega,hi5⟩⟩,by simp only;omega,⟨by rw[wN (by omega)];simp[eP,eM],rfl,rfl⟩⟩
  · subst e
    rcases hmE c hc with q|q|q
    · exact nEL c hd q
    · cases q
    · have:=oL'.lt c hd;omega
  · simp only at hc
    rcases List.mem_append.1 hc with g|g
    · rcases hmE c g with q|q|q
      · exact bi c (List.mem_append_left _ q)
      · cases q
      · omega
    · rcases hmL c g with q|q|q
      · exact bi c (List.mem_append_right _ q)
      · have:=b3 c q;omega
      · omega
end Go.Proofs.YtccjhmhkfnnmaaaGreat
