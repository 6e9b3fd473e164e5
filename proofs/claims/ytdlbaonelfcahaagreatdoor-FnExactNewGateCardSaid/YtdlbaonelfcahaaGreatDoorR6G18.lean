import Derived.Test.YtdlbaonelfcahaaGreatDoorR6G16
import Derived.WalkKit
import Derived.BigCall
import Derived.Deep.LoopGhost
import Derived.Test.YtdlbaonelfcahaaGreatDoorR6G17
set_option linter.unusedVariables false
set_option linter.unusedSimpArgs false
namespace Go.Proofs.YtdlbaonelfcahaaGreatDoor
open Go.AM Go.Shelf Go.RowKit Go.Proofs
theorem xo(m:Int)(w:World)(hm:w.cell? ⟨1,0,none⟩=some (.int .i64 m)):
    Calls Tryz.prog 107 #[.string ⟨Ax.toArray⟩,.string ⟨#[10]⟩] w fun e w'=>e=.returned (.slice (some ⟨w.heap.size,0,none⟩) 10 10)∧w'=w.alloc (.cells (lines.map Value.string).toArray 9):=by
  have:=Any.strings_Split Df (by kernel_rfl) ⟨Ax.toArray⟩ nl m w (by decide +kernel) hm (by decide +kernel)
  have h9:Lib.countB ⟨Ax.toArray⟩ nl=9:=c9
  have hl:Lib.splitB nl 0 9 ⟨Ax.toArray⟩=lines:=AU
  rw[h9,hl]at this
  exact this
theorem Kc{i:Nat}(hi:i<fX.length):Lib.cut fX[i].line [58,32]=(fX[i].own++[32]++fX[i].met,fX[i].code,true)∧Lib.cut (fX[i].own++[32]++fX[i].met) [32]=(fX[i].own,fX[i].met,true)∧Lib.replaceAll fX[i].code [59,32] [10]=fX[i].rep:=by
  have:=List.all_eq_true.1 KZ _ (List.getElem_mem hi)
  simp only[Bool.and_eq_true,decide_eq_true_eq]at this
  exact⟨this.1.1,this.1.2,this.2⟩
theorem qW(l sep:List UInt8)(m:Int)(w:World)(hl:l.length<4294967281)(hm:w.cell? ⟨1,0,none⟩=some (.int .i64 m)){a b:List UInt8}{t:Bool}(hc:Lib.cut l sep=(a,b,t)):
    Calls Tryz.prog 112 #[.string ⟨l.toArray⟩,.string ⟨sep.toArray⟩] w fun e w'=>e=.returned (.tuple #[.string ⟨a.toArray⟩,.string ⟨b.toArray⟩,.bool t])∧∃n,w'=w.drewN n:=by
  have:=Any.strings_Cut J7 ⟨l.toArray⟩ ⟨sep.toArray⟩ m w (by simpa[ByteArray.size]using hl) hm
  simp only[List.toList_toArray,hc]at this
  exact this
theorem sE(c r:List UInt8)(m:Int)(w:World)(hl:c.length≤100)(hm:w.cell? ⟨1,0,none⟩=some (.int .i64 m))(hc:Lib.replaceAll c [59,32] [10]=r):
    Calls Tryz.prog 114 #[.string ⟨c.toArray⟩,.string ⟨#[59,32]⟩,.string ⟨#[10]⟩] w fun e w'=>e=.returned (.string ⟨r.toArray⟩)∧Below w.heap.size w w':=by
  have hs:(⟨c.toArray⟩:ByteArray).size=c.length:=by simp[ByteArray.size]
  have hcb:=Lib.countB_mul_le ⟨#[59,32]⟩ (by decide) (⟨c.toArray⟩:ByteArray).size ⟨c.toArray⟩ (Nat.le_refl _)
  have:=Any.strings_ReplaceAll xT qE ⟨c.toArray⟩ ⟨#[59,32]⟩ ⟨#[10]⟩ m w (by rw[hs];omega) hm (by decide) (by
    have e1:(⟨#[59,32]⟩:ByteArray).size=2:=rfl
    have e2:(⟨#[10]⟩:ByteArray).size=1:=rfl
    rw[e1,hs]at hcb;rw[e2,hs];omega)
  simp only[List.toList_toArray]at this
  rw[hc]at this
  exact this
theorem kx{B b:Nat}{bs:List Value}{w w':World}(h:Lib.IsBuilderF 177 5 B b bs w)(k:Below w.heap.size w w'):Lib.IsBuilderF 177 5 B b bs w':=by
  have one:∀p,Lib.BuilderAtF 177 5 B b p bs w→Lib.BuilderAtF 177 5 B b p bs w':=by
    rintro p ⟨h1,v,h2,h3,h4⟩
    have hb:=c6 h2
    refine⟨h1,v,by rw[k.block _ hb];exact h2,?_,h4⟩
    obtain⟨g1,g2⟩:=h3
    refine⟨g1,?_⟩
    rcases g2 with g|⟨g,cap,cur,fz,e1,e2,e3,e4⟩
    · exact .inl g
    · exact .inr ⟨g,cap,cur,fz,e1,e2,by rw[k.block _ (c6 e3)];exact e3,e4⟩
  exact h.elim (fun x=>.inl (one _ x)) (fun x=>.inr (one _ x))
theorem nz(w:World)(n B:Nat):Below B w (w.drewN n):=⟨rfl,rfl,rfl,Nat.le_refl _,fun _ _=>rfl⟩
def et:Array Value:=(lines.map Value.string).toArray
theorem vD{i:Nat}(hi:i<fX.length):et[i]? = some (.string ⟨fX[i].line.toArray⟩):=by
  simp[et,lines,hi]
set_option maxHeartbeats 1600000 in
set_option maxRecDepth 100000 in
theorem lS(m:Int)(w:World)(hm:w.cell? ⟨1,0,none⟩=some (.int .i64 m)):
    Calls Tryz.prog 62 #[] w fun e w'=>e=.returned (.string ⟨dH.toArray⟩)∧Below w.heap.size w w':=by
  have h0:Lib.IsBuilderF 177 5 w.heap.size w.heap.size (Lib.byteCells []) (w.alloc (.cells #[.pointer none,.slice none 0 0] 177)):=Lib.IsBuilderF.of (Lib.fresh_isBuilder 177 5 w)
  have b0:Below w.heap.size w (w.alloc (.cells #[.pointer none,.slice none 0 0] 177)):=(Below.refl _ w).alloc (Nat.le_refl _) _
  have hg:1<w.heap.size:=World.block_lt_of_cell? _ _ hm
  have hS:=xo m _ ((b0.cell (p:=⟨1,0,none⟩) hg).trans hm)
  go_enter Tryz.func62,Tryz.ntmps62
  go_wp2_with (go_at_call 107;refine hS.mono ?_)
  rintro e W2 ⟨rfl,hw⟩
  have H2:Hid (Lib.IsBuilderF 177 5 w.heap.size w.heap.size (Lib.byteCells []) W2):=by rw[hw];exact h0.alloc _
  have B2:Hid (Below w.heap.size w W2):=by rw[hw];exact b0.alloc (by simp) _
  have L2:Hid (W2.heap[w.heap.size+1]? = some (.cells et 9 (0,0))):=by rw[hw];exact(show _=_ from by have:=heap_alloc_new (w.alloc (.cells #[.pointer none,.slice none 0 0] 177)) (.cells et 9);simpa[et]using this)
  clear hw h0 b0 hS
  go_wp2_with fail
  go_loopg [2,14] 10 (fun g s2 s14 wx=>∃i:Nat,s2=.string ⟨(mM i).1.toArray⟩∧s14=.int .i64 i∧i+g=10∧
    Hid (Lib.IsBuilderF 177 5 w.heap.size w.heap.size (Lib.byteCells (mM i).2) wx)∧Hid (Below w.heap.size w wx)∧Hid (wx.heap[w.heap.size+1]? = some (.cells et 9 (0,0))))
  case atStart=>exact⟨0,rfl,rfl,rfl,H2,B2,L2⟩
  case round=>
    obtain⟨i,rfl,rfl,hig,HB,HW,HL⟩:=hrel
    clear H2 B2 L2
    have hmr:wr.cell? ⟨1,0,none⟩=some (.int .i64 m):=(HW.out.cell (p:=⟨1,0,none⟩) hg).trans hm
    have hBw:w.heap.size≤wr.heap.size:=HW.out.size
    cases gk with
    | zero=>
      have hi10:i=10:=by omega
      subst hi10
      go_wp2_with fail
      refine(Any.Builder_String_any_f xK qE w.heap.size w.heap.size _ wr HB.out hBw).mono ?_
      rintro e w5 ⟨rfl,_,hb5⟩
      have Hb5:=Any.hidR (HW.out.trans hb5)
      clear hb5
      go_wp2
      go_ret
      exact⟨by rw[D9];rfl,Hb5.out⟩
    | succ g=>
      have hi:i<fX.length:=by rw[DE];omega
      obtain⟨r,hr⟩:∃r,r=fX[i]:=⟨_,rfl⟩
      have hcell:wr.cell? ⟨w.heap.size+1,i,none⟩=some (.string ⟨r.line.toArray⟩):=by
        rw[Go.AM.cell_of HL.out,vD hi,hr]
      obtain⟨c1,c2,c3⟩:=Kc hi
      have hac:=Aa hi
      obtain⟨l1,l2,l3,l4,l5⟩:=DL fX[i] (List.getElem_mem hi)
      rw[←hr]at c1 c2 c3 hac l1 l2 l3 l4 l5
      have hal:=DW i (by omega)
      obtain⟨hd,hhd⟩:∃hd,hd=r.own++[32]++r.met:=⟨_,rfl⟩
      have lh:hd.length≤300:=by rw[hhd];simp only[List.length_append,List.length_cons,List.length_nil];omega
      rw[←hhd]at c1 c2
      obtain⟨sc,hsc⟩:∃sc,sc=(mM i).1:=⟨_,rfl⟩
      obtain⟨ac,hacc⟩:∃ac,ac=(mM i).2:=⟨_,rfl⟩
      rw[←hacc]at HB hal
      rw[←hsc]
      have HC:=qW r.line [58,32] m wr (by omega) hmr c1
      have hi1:(0:Int)≤(i:Int):=by omega
      have hi2:(i:Int)<10:=by omega
      have FACTS:=Any.hidR (And.intro c1 (And.intro c2 (And.intro c3 (And.intro hac (And.intro l1 (And.intro l2 (And.intro l3 (And.intro l4 (And.intro l5 (And.intro hal (And.intro hsc hacc)))))))))))
      have HI:=Any.hidR hig
      have z1:¬9223372036854775807<7+r.own.length:=by omega
      have z2:¬9223372036854775807<7+r.own.length+1:=by omega
      have z3:¬9223372036854775807<7+r.met.length:=by omega
      have z4:¬9223372036854775807<7+r.met.length+1:=by omega
      have z5:¬9223372036854775807<7+r.met.length+1+r.rep.length:=by omega
      have z6:¬9223372036854775807<7+r.met.length+1+r.rep.length+1:=by omega
      clear c1 c2 c3 hac l1 l2 l3 l4 l5 hal hr hi hig hhd hsc hacc
      go_wp2_with fail
      refine HC.mono ?_
      rintro e w3 ⟨rfl,n1,hw3⟩
      have HB3:Hid (Lib.IsBuilderF 177 5 w.heap.size w.heap.size (Lib.byteCells ac) w3):=by rw[hw3];exact HB
      have HW3:Hid (Below w.heap.size w w3):=by rw[hw3];exact HW.out.trans (nz wr n1 _)
      have HL3:Hid (w3.heap[w.heap.size+1]? = some (.cells et 9 (0,0))):=by rw[hw3];exact HL
      have hm3:w3.cell? ⟨1,0,none⟩=some (.int .i64 m):=(HW3.out.cell (p:=⟨1,0,none⟩) hg).trans hm
      have HC3:=qW hd [32] m w3 (by omega) hm3 FACTS.out.2.1
      clear hw3 HB HW HL HC hmr hcell hBw
      go_wp2_with fail
      refine HC3.mono ?_
      rintro e w4 ⟨rfl,n2,hw4⟩
      have HB4:Hid (Lib.IsBuilderF 177 5 w.heap.size w.heap.size (Lib.byteCells ac) w4):=by rw[hw4];exact HB3
      have HW4:Hid (Below w.heap.size w w4):=by rw[hw4];exact HW3.out.trans (nz w3 n2 _)
      have HL4:Hid (w4.heap[w.heap.size+1]? = some (.cells et 9 (0,0))):=by rw[hw4];exact HL3
      have hm4:w4.cell? ⟨1,0,none⟩=some (.int .i64 m):=(HW4.out.cell (p:=⟨1,0,none⟩) hg).trans hm
      have hB4:w.heap.size≤w4.heap.size:=HW4.out.size
      clear hw4 HB3 HW3 HL3 hm3 HC3
      by_cases ho:r.own=sc
      · have hbeq:(r.own == sc)=true:=by rw[ho];simp
        have HO:=Any.hidR ho
        clear ho
        have HR:=sE r.code r.rep m w4 (by have:=FACTS.out;omega) hm4 FACTS.out.2.2.1
        go_wp2_with fail
        refine HR.mono ?_
        rintro e w6 ⟨rfl,hw6⟩
        have HB6:Hid (Lib.IsBuilderF 177 5 w.heap.size w.heap.size (Lib.byteCells ac) w6):=kx HB4.out hw6
        have HW6:Hid (Below w.heap.size w w6):=HW4.out.trans (hw6.mono hB4)
        have HL6:Hid (w6.heap[w.heap.size+1]? = some (.cells et 9 (0,0))):=(hw6.block _ (c6 HL4.out)).trans HL4.out
        have hB6:w.heap.size≤w6.heap.size:=HW6.out.size
        clear hw6 HB4 HW4 HL4 hm4 hB4 HR
        go_wp2_with fail
        refine(Any.Builder_WriteString_k kR qE w.heap.size w.heap.size _ _ w6 HB6.out (by have:=FACTS.out;rw[Lib.byteCells_length];simp[ByteArray.size_append,ByteArray.size];omega) hB6).mono ?_
        rintro e w7 ⟨rfl,h7,hb7,ho7⟩
        have HB7:=Any.hidR (Or.inr h7:Lib.IsBuilderF 177 5 w.heap.size w.heap.size _ w7)
        have HW7:=Any.hidR (HW6.out.trans hb7)
        have HL7:=Any.hidR (ho7 _ _ HL6.out (by simp) (fun c fz e=>by injection e with e1 e2;exact absurd e2 (by decide)))
        clear h7 hb7 ho7 HB6 HW6 HL6
        have HN:Hid ((mM (i+1)).1=sc∧Lib.byteCells ac++Lib.strCells ((⟨#[109,101,116,104,111,100,32]⟩:ByteArray)++⟨r.met.toArray⟩++⟨#[10]⟩++⟨r.rep.toArray⟩++⟨#[10]⟩)=Lib.byteCells (mM (i+1)).2):=by
          have hac:=FACTS.out.2.2.2.1
          have e1:=FACTS.out.2.2.2.2.2.2.2.2.2.2.1
          have e2:=FACTS.out.2.2.2.2.2.2.2.2.2.2.2
          rw[hac,yV,←e1,←e2,if_pos HO.out]
          refine⟨HO.out,?_⟩
          rw[Lib.strCells_eq,←Lib.byteCells_append]
          congr 1
          simp[uw,ByteArray.data_append]
        rw[HN.out.2]at HB7
        go_wp2
        go_roundg g
        case measure=>omega
        case rel=>exact⟨i+1,by rw[HN.out.1],by first|rfl|(simp;done),by have:=HI.out;omega,HB7,HW7,HL7⟩
      · have hbeq:(r.own == sc)=false:=beq_eq_false_iff_ne.2 ho
        have HO:=Any.hidR ho
        clear ho
        go_wp2_with fail
        refine(Any.Builder_WriteString_k kR qE w.heap.size w.heap.size _ _ w4 HB4.out (by have:=FACTS.out;rw[Lib.byteCells_length];simp[ByteArray.size_append,ByteArray.size];omega) hB4).mono ?_
        rintro e w5 ⟨rfl,h5,hb5,ho5⟩
        have HB5:=Any.hidR (Or.inr h5:Lib.IsBuilderF 177 5 w.heap.size w.heap.size _ w5)
        have HW5:=Any.hidR (HW4.out.trans hb5)
        have HL5:=Any.hidR (ho5 _ _ HL4.out (by simp) (fun c fz e=>by injection e with e1 e2;exact absurd e2 (by decide)))
        have hm5:w5.cell? ⟨1,0,none⟩=some (.int .i64 m):=(HW5.out.cell (p:=⟨1,0,none⟩) hg).trans hm
        have hB5:w.heap.size≤w5.heap.size:=HW5.out.size
        clear h5 hb5 ho5 HB4 HW4 HL4 hm4 hB4
        have HR:=sE r.code r.rep m w5 (by have:=FACTS.out;omega) hm5 FACTS.out.2.2.1
        go_wp2_with fail
        refine HR.mono ?_
        rintro e w6 ⟨rfl,hw6⟩
        have HB6:=Any.hidR (kx HB5.out hw6)
        have HW6:Hid (Below w.heap.size w w6):=HW5.out.trans (hw6.mono hB5)
        have HL6:Hid (w6.heap[w.heap.size+1]? = some (.cells et 9 (0,0))):=(hw6.block _ (c6 HL5.out)).trans HL5.out
        have hB6:w.heap.size≤w6.heap.size:=HW6.out.size
        clear hw6 HB5 HW5 HL5 hm5 hB5 HR
        go_wp2_with fail
        refine(Any.Builder_WriteString_k kR qE w.heap.size w.heap.size _ _ w6 HB6.out (by have:=FACTS.out;rw[List.length_append,Lib.byteCells_length,Lib.strCells_length];simp[ByteArray.size_append,ByteArray.size];omega) hB6).mono ?_
        rintro e w7 ⟨rfl,h7,hb7,ho7⟩
        have HB7:=Any.hidR (Or.inr h7:Lib.IsBuilderF 177 5 w.heap.size w.heap.size _ w7)
        have HW7:=Any.hidR (HW6.out.trans hb7)
        have HL7:=Any.hidR (ho7 _ _ HL6.out (by simp) (fun c fz e=>by injection e with e1 e2;exact absurd e2 (by decide)))
        clear h7 hb7 ho7 HB6 HW6 HL6
        have HN:Hid ((mM (i+1)).1=r.own∧Lib.byteCells ac++Lib.strCells ((⟨#[115,99,114,105,112,116,32]⟩:ByteArray)++⟨r.own.toArray⟩++⟨#[10]⟩)++Lib.strCells ((⟨#[109,101,116,104,111,100,32]⟩:ByteArray)++⟨r.met.toArray⟩++⟨#[10]⟩++⟨r.rep.toArray⟩++⟨#[10]⟩)=Lib.byteCells (mM (i+1)).2):=by
          have hac:=FACTS.out.2.2.2.1
          have e1:=FACTS.out.2.2.2.2.2.2.2.2.2.2.1
          have e2:=FACTS.out.2.2.2.2.2.2.2.2.2.2.2
          rw[hac,yV,←e1,←e2,if_neg HO.out]
          refine⟨rfl,?_⟩
          rw[Lib.strCells_eq,Lib.strCells_eq,←Lib.byteCells_append,←Lib.byteCells_append]
          congr 1
          first|done|simp[uw,yx,ByteArray.data_append]
        rw[HN.out.2]at HB7
        go_wp2
        go_roundg g
        case measure=>omega
        case rel=>exact⟨i+1,by rw[HN.out.1],by first|rfl|(simp;done),by have:=HI.out;omega,HB7,HW7,HL7⟩
end Go.Proofs.YtdlbaonelfcahaaGreatDoor
namespace Go.Proofs.YtdlbaonelfcahaaGreatDoor
open Go.AM Go.Shelf Go.RowKit Go.Proofs
structure ij (B:Nat) (w w':World):Prop where
  os:w'.os=w.os
  output:w'.output=w.output
  size:w.heap.size≤w'.heap.size
  block:∀k,k<B→w'.heap[k]? = w.heap[k]?
theorem ij.refl(B:Nat)(w:World):ij B w w:=⟨rfl,rfl,Nat.le_refl _,fun _ _=>rfl⟩
theorem ij.trans{B:Nat}{a b c:World}(h:ij B a b)(k:ij B b c):ij B a c:=⟨k.os.trans h.os,k.output.trans h.output,Nat.le_trans h.size k.size,fun i hi=>(k.block i hi).trans (h.block i hi)⟩
theorem ij.mono{B C:Nat}{a b:World}(h:ij C a b)(hc:B≤C):ij B a b:=⟨h.os,h.output,h.size,fun i hi=>h.block i (by omega)⟩
theorem ij.of{B:Nat}{a b:World}(h:Below B a b):ij B a b:=⟨h.os,h.output,h.size,h.block⟩
theorem nj{B b:Nat}{bs:List Value}{w w':World}(h:Lib.IsBuilderF 177 5 B b bs w)(k:ij w.heap.size w w'):Lib.IsBuilderF 177 5 B b bs w':=by
  have one:∀p,Lib.BuilderAtF 177 5 B b p bs w→Lib.BuilderAtF 177 5 B b p bs w':=by
    rintro p ⟨h1,v,h2,h3,h4⟩
    have hb:=c6 h2
    refine⟨h1,v,by rw[k.block _ hb];exact h2,?_,h4⟩
    obtain⟨g1,g2⟩:=h3
    refine⟨g1,?_⟩
    rcases g2 with g|⟨g,cap,cur,fz,e1,e2,e3,e4⟩
    · exact .inl g
    · exact .inr ⟨g,cap,cur,fz,e1,e2,by rw[k.block _ (c6 e3)];exact e3,e4⟩
  exact h.elim (fun x=>.inl (one _ x)) (fun x=>.inr (one _ x))
theorem gW.UM{ρ ρ':cN}{h':AH}{w w':World}(e:gW ρ [] [] w ρ' [] h' w'):ij w.heap.size w w':=⟨e.os,e.out,e.sz,fun k hk=>e.fr k hk (by
  rintro(⟨i,hi⟩|⟨b,g,cs,o,n,hb,_⟩)
  · simp at hi
  · simp at hb)⟩
def Lg(ρ:cN):cN:=⟨fun _ _=>none,ρ.imm⟩
def pv(ρ:cN)(w:World):Prop:=∀β c arr,ρ.imm β c=some arr→∃T fr,w.heap[c]? = some (Obj.cells arr T fr)
theorem pv.rh{ρ:cN}{w:World}(i:pv ρ w):RH (Lg ρ) [] [] [] w where
  hp:=fun b g cs h=>by simp at h
  lp:=fun i cs h=>by simp at h
  len:=rfl
  nod:=fun i j c h=>by simp at h
  hh:=fun b g cs b' g' cs' c o n o' n' h=>by simp at h
  hl:=fun b g cs c o n i h=>by simp at h
  im:=i
  iml:=fun β c arr i h=>by simp
  imh:=fun β c arr b g cs o n h h2=>by simp at h2
  dom:=fun b g c o n h=>by simp[Lg]at h
def zP:AV→Bool|.int _ _=>true|.str _=>true|.opq _=>true|_=>false
theorem CS{ρ ρ':cN}{x:AV}{v:Value}(hx:zP x=true)(r:RV ρ [] x v):RV ρ' [] x v:=by
  cases r<;>first|exact .int _ _ _|exact .str _ _|exact .opq _ _|(simp[zP]at hx)
def only(Γ:bG):bG:=fun n=>match Γ n with|some cs=>if cs.all zP=true then some cs else none|none=>none
theorem lA{Γ:bG}{n:Nat}{cs:List AV}(h:Γ n=some cs)(hf:cs.all zP=true):only Γ n=some cs:=by
  simp only[only,h,if_pos hf]
theorem ik.only{Γ:bG}(g:ik Γ):ik (only Γ):=by
  obtain⟨h1,⟨t1,p1,h2⟩,⟨t2,p2,h3⟩,⟨m,h4⟩,h5⟩:=g
  refine⟨lA h1 ?_,⟨t1,p1,lA h2 rfl⟩,⟨t2,p2,lA h3 rfl⟩,⟨m,lA h4 rfl⟩,lA h5 ?_⟩
  · rw[List.all_map,List.all_eq_true];intro x _;rfl
  · rw[List.all_map,List.all_eq_true];intro x _;rfl
theorem uu.only{Γ:bG}{ρ:cN}(g:uu Γ ρ):uu (only Γ) (Lg ρ):=fun n cs e=>by
  unfold Go.Proofs.YtdlbaonelfcahaaGreatDoor.only at e
  split at e
  · rename_i cs' hc
    split at e
    · rename_i hf
      obtain rfl:=Option.some.inj e
      obtain⟨arr,h1,h2,h3⟩:=g n _ hc
      refine⟨arr,h1,fun i x hx=>?_,h3⟩
      obtain⟨y,hy,ry⟩:=h2 i x hx
      exact⟨y,hy,CS (List.all_eq_true.1 hf x (List.mem_of_getElem? hx)) ry⟩
    · cases e
  · cases e
def DU(x:bJ):Array Value:=#[.int .i64 x.op,.int .i64 x.a,.int .i64 x.b,.int .i64 x.c,.int .i64 x.d,.string (tb x.name)]
theorem D1(ρ:cN)(x:bJ):RV ρ [] (.agg (bI x)) (.agg (DU x)):=by
  refine .agg [] _ _ rfl (fun i y hy=>?_)
  match i,hy with
  | 0,hy=>simp[bI]at hy;subst hy;exact .int _ _ _
  | 1,hy=>simp[bI]at hy;subst hy;exact .int _ _ _
  | 2,hy=>simp[bI]at hy;subst hy;exact .int _ _ _
  | 3,hy=>simp[bI]at hy;subst hy;exact .int _ _ _
  | 4,hy=>simp[bI]at hy;subst hy;exact .int _ _ _
  | 5,hy=>simp[bI]at hy;subst hy;exact .str _ _
  | n+6,hy=>simp[bI]at hy
theorem lW{Γ:bG}(hΓ:ik Γ){ρ:cN}(gg:uu Γ ρ){w:World}(im:pv ρ w){s:Tx}(hs:s∈bZ):
    Calls Tryz.prog 166 #[.agg (DU (bM s))] w fun e w'=>e=.returned (.string (tb s))∧ij w.heap.size w w':=by
  obtain⟨hcl,t⟩:=Ho hΓ.only hs []
  refine(t (Lg ρ) w [.agg (DU (bM s))] im.rh (uu.only gg) ⟨rfl,fun i x hx=>?_⟩).mono ?_
  · match i,hx with
    | 0,hx=>simp at hx;subst hx;exact D1 _ _
    | n+1,hx=>simp at hx
  · rintro e w' ⟨v,cv,ρ',h',rfl,rv,_,ev,rfl,rfl⟩
    cases rv
    exact⟨rfl,gW.UM ev⟩
theorem pv.UM{ρ:cN}{w w':World}(i:pv ρ w)(b:ij w.heap.size w w'):pv ρ w':=fun β c arr h=>by
  obtain⟨T,fr,e⟩:=i β c arr h
  exact⟨T,fr,by rw[b.block c (c6 e)];exact e⟩
end Go.Proofs.YtdlbaonelfcahaaGreatDoor
namespace Go.Proofs.YtdlbaonelfcahaaGreatDoor
open Go.AM Go.Shelf Go.RowKit Go.Proofs
def sI(i:Nat):bj:=gO.getD i ⟨[],[]⟩
def kB(i:Nat):Tx:=((gO.take i).map fmtS).flatten
theorem l9:gO.length=4:=by decide +kernel
theorem Ak:kB 4=dH:=by
  unfold kB
  rw[List.take_of_length_le (by rw[l9];omega),xp]
theorem xz(i:Nat)(hi:i<4):kB (i+1)=kB i++fmtS (sI i):=by
  have hl:i<gO.length:=by rw[l9];exact hi
  unfold kB
  rw[List.take_succ_eq_append_getElem hl,List.map_append,List.flatten_append,sI,List.getD_eq_getElem?_getD,List.getElem?_eq_getElem hl]
  simp
theorem z8:∀i,i<4→(kB i).length+(fmtS (sI i)).length≤10000:=by decide +kernel
theorem ij.cell{B:Nat}{w w':World}(b:ij B w w'){p:Addr}(h:p.block<B):w'.cell? p=w.cell? p:=by
  simp only[World.cell?,b.block _ h]
set_option maxHeartbeats 1600000 in
set_option maxRecDepth 100000 in
theorem kM(w:World)(c o cap:Nat)(nm:Nat→ByteArray)(cs os ns ps:Nat→Nat)(hcw:c<w.heap.size)
  (hc:∀i,i<4→w.cell? ⟨c,o+i*2,none⟩=some (.string (nm i))∧w.cell? ⟨c,o+i*2+1,none⟩=some (.slice (some ⟨cs i,os i,none⟩) (ns i) (ps i)))
  (hI:Calls Tryz.prog 110 #[.slice (some ⟨c,o,none⟩) 4 cap] w fun e w'=>e=.returned (.bool true)∧ij w.heap.size w w')
  (hS:∀(i:Nat),i<4→∀wx:World,ij w.heap.size w wx→Calls Tryz.prog 144 #[.agg #[.string (nm i),.slice (some ⟨cs i,os i,none⟩) (ns i) (ps i)]] wx fun e w'=>e=.returned (.string (tb (fmtS (sI i))))∧ij wx.heap.size wx w'):
    Calls Tryz.prog 111 #[.slice (some ⟨c,o,none⟩) 4 cap] w fun e w'=>e=.returned (.string ⟨dH.toArray⟩)∧ij w.heap.size w w':=by
  go_enter Tryz.func111,Tryz.ntmps111
  go_wp2_with (go_at_call 110;refine hI.mono ?_)
  rintro e W2 ⟨rfl,hw⟩
  have BW:=Any.hidR hw
  have hB:w.heap.size≤W2.heap.size:=hw.size
  have h0:Hid (Lib.IsBuilderF 177 5 W2.heap.size W2.heap.size (Lib.byteCells (kB 0)) (W2.alloc (.cells #[.pointer none,.slice none 0 0] 177))):=Any.hidR (Lib.IsBuilderF.of (Lib.fresh_isBuilder 177 5 W2))
  have b0:Hid (ij W2.heap.size W2 (W2.alloc (.cells #[.pointer none,.slice none 0 0] 177))):=Any.hidR (ij.of ((Below.refl _ W2).alloc (Nat.le_refl _) _))
  clear hw
  go_wp2_with fail
  go_loopg [12] 4 (fun g s12 wx=>∃i:Nat,s12=.int .i64 i∧i+g=4∧Hid (Lib.IsBuilderF 177 5 W2.heap.size W2.heap.size (Lib.byteCells (kB i)) wx)∧Hid (ij W2.heap.size W2 wx))
  case atStart=>exact⟨0,rfl,rfl,h0,b0⟩
  case round=>
    obtain⟨i,rfl,hig,HB,HW⟩:=hrel
    clear h0 b0
    cases gk with
    | zero=>
      have hi4:i=4:=by omega
      subst hi4
      go_wp2_with fail
      refine(Any.Builder_String_any_f xK qE W2.heap.size W2.heap.size _ wr HB.out HW.out.size).mono ?_
      rintro e w5 ⟨rfl,_,hb5⟩
      have Hb5:=Any.hidR (BW.out.trans ((HW.out.trans (ij.of hb5)).mono hB))
      clear hb5
      go_wp2
      go_ret
      exact⟨by rw[Ak];rfl,Hb5.out⟩
    | succ g=>
      have hi:i<4:=by omega
      have hi1:(0:Int)≤(i:Int):=by omega
      have hi2:(i:Int)<4:=by omega
      obtain⟨hc1,hc2⟩:=hc i hi
      have hBr:ij w.heap.size w wr:=BW.out.trans (HW.out.mono hB)
      have x1:wr.cell? ⟨c,o+i*2,none⟩=some (.string (nm i)):=(hBr.cell hcw).trans hc1
      have x2:wr.cell? ⟨c,o+i*2+1,none⟩=some (.slice (some ⟨cs i,os i,none⟩) (ns i) (ps i)):=(hBr.cell hcw).trans hc2
      have HI:=Any.hidR hig
      have hX:=fun(x:Obj)=>hS i hi (wr.alloc x) (hBr.trans (ij.of ((Below.refl _ wr).alloc hBr.size x)))
      have HBx:=fun(x:Obj)=>Any.hidR (HB.out.alloc x)
      have HWx:=fun(x:Obj)=>Any.hidR (HW.out.trans (ij.of ((Below.refl _ wr).alloc HW.out.size x)))
      clear hig hc1 hc2 hBr HB HW
      go_wp2_with fail
      refine(hX _).mono ?_
      rintro e w3 ⟨rfl,hw3⟩
      have HB3:=Any.hidR (nj (HBx _).out hw3)
      have HW3:=Any.hidR ((HWx _).out.trans (hw3.mono (HWx _).out.size))
      have HZ:=Any.hidR HW3.out.size
      clear hw3 hX HBx HWx x1 x2
      go_wp2_with fail
      refine(Any.Builder_WriteString_k kR qE W2.heap.size W2.heap.size _ _ w3 HB3.out (by rw[Lib.byteCells_length,dV];have:=z8 i hi;omega) HZ.out).mono ?_
      rintro e w5 ⟨rfl,h5,hb5,_⟩
      have HB5:=Any.hidR (Or.inr h5:Lib.IsBuilderF 177 5 W2.heap.size W2.heap.size _ w5)
      have HW5:=Any.hidR (HW3.out.trans (ij.of hb5))
      clear h5 hb5 HB3 HW3
      have HN:Hid (Lib.byteCells (kB i)++Lib.strCells (tb (fmtS (sI i)))=Lib.byteCells (kB (i+1))):=by
        refine Any.hidR ?_
        rw[Lib.strCells_eq,←Lib.byteCells_append,xz i hi]
        congr 1
      rw[HN.out]at HB5
      go_wp2
      go_roundg g
      case measure=>omega
      case rel=>exact⟨i+1,by first|rfl|(simp;done),by have:=HI.out;omega,HB5,HW5⟩
end Go.Proofs.YtdlbaonelfcahaaGreatDoor
namespace Go.Proofs.YtdlbaonelfcahaaGreatDoor
open Go.AM Go.Shelf Go.RowKit Go.Proofs
def yF(c:List bJ):Tx:=(c.map fun x=>jq x++[10]).flatten
def GB(m:cD):Tx:=bz++m.name++[10]++yF m.code
def cJ(s:bj)(j:Nat):cD:=s.methods.getD j ⟨[],[]⟩
def xI(s:bj)(j k:Nat):bJ:=(cJ s j).code.getD k ⟨0,0,0,0,0,[]⟩
def lM(s:bj)(j:Nat):Tx:=bu++s.name++[10]++((s.methods.take j).map GB).flatten
def kY(s:bj)(j k:Nat):Tx:=lM s j++(bz++(cJ s j).name++[10])++yF ((cJ s j).code.take k)
theorem J5(s:bj):lM s 0=bu++s.name++[10]:=by simp[lM]
theorem Bt(s:bj):lM s s.methods.length=fmtS s:=by unfold lM;rw[List.take_length];rfl
theorem Kz(s:bj)(j:Nat):kY s j 0=lM s j++(bz++(cJ s j).name++[10]):=by simp[kY,yF]
theorem At(s:bj){j k:Nat}(hk:k<(cJ s j).code.length):kY s j (k+1)=kY s j k++(jq (xI s j k)++[10]):=by
  unfold kY yF xI
  rw[List.take_succ_eq_append_getElem hk,List.map_append,List.flatten_append,List.getD_eq_getElem?_getD,List.getElem?_eq_getElem hk]
  simp
theorem Bo(s:bj){j:Nat}(hj:j<s.methods.length):kY s j (cJ s j).code.length=lM s (j+1):=by
  unfold kY lM cJ
  rw[List.take_length,List.take_succ_eq_append_getElem hj,List.map_append,List.flatten_append,List.getD_eq_getElem?_getD,List.getElem?_eq_getElem hj]
  simp[GB]
theorem Dq:gO.all (fun s=>(List.range 5).all fun j=>decide ((lM s j).length≤4000) && (List.range 13).all fun k=>decide ((kY s j k).length≤4000))=true:=by decide +kernel
theorem Kg{s:bj}(hs:s∈gO){j:Nat}(hj:j<5):(lM s j).length≤4000∧∀k,k<13→(kY s j k).length≤4000:=by
  have:=List.all_eq_true.1 (List.all_eq_true.1 Dq s hs) j (List.mem_range.2 hj)
  simp only[Bool.and_eq_true,decide_eq_true_eq,List.all_eq_true,List.mem_range]at this
  exact this
theorem xr{B b:Nat}{bs:List Value}{w:World}(h:Lib.IsBuilderF 177 5 B b bs w):b<w.heap.size:=by
  rcases h with⟨_,v,h2,_⟩|⟨_,v,h2,_⟩<;>exact c6 h2
theorem lO{s:bj}{j:Nat}(hj:j<s.methods.length):cJ s j∈s.methods:=by
  unfold cJ;rw[List.getD_eq_getElem?_getD,List.getElem?_eq_getElem hj];exact List.getElem_mem hj
theorem CQ{s:bj}(hs:s∈gO){m:cD}(hm:m∈s.methods):m.name.length≤6:=by
  have:=List.all_eq_true.1 gV s hs
  simp only[Bool.and_eq_true,List.all_eq_true,decide_eq_true_eq]at this
  exact(this.2.2 m hm).1
theorem zK{s:bj}{j k:Nat}(hk:k<(cJ s j).code.length):xI s j k∈(cJ s j).code:=by
  unfold xI;rw[List.getD_eq_getElem?_getD,List.getElem?_eq_getElem hk];exact List.getElem_mem hk
theorem Dm{s:bj}(hs:s∈gO){m:cD}(hm:m∈s.methods){x:bJ}(hx:x∈m.code):(jq x).length≤40:=by
  obtain⟨c,hc,rfl⟩:=oD hs hm hx
  obtain⟨k1,k2,k3,k4,_⟩:=iz hc
  rw[k4];exact k1
set_option maxHeartbeats 3200000 in
set_option maxRecDepth 100000 in
theorem lT{s:bj}(hs:s∈gO)(w:World)(c o cap:Nat)(cs os ps:Nat→Nat)(hcw:c<w.heap.size)
  (hn4:s.methods.length≤4) (hk12:∀j,j<s.methods.length→(cJ s j).code.length≤12)
  (hcs:∀j,j<s.methods.length→cs j<w.heap.size)
  (hc:∀j,j<s.methods.length→w.cell? ⟨c,o+j*2,none⟩=some (.string (tb (cJ s j).name))∧w.cell? ⟨c,o+j*2+1,none⟩=some (.slice (some ⟨cs j,os j,none⟩) (cJ s j).code.length (ps j)))
  (hx:∀j,j<s.methods.length→∀k,k<(cJ s j).code.length→
    w.cell? ⟨cs j,os j+k*6,none⟩=some (.int .i64 (xI s j k).op)∧w.cell? ⟨cs j,os j+k*6+1,none⟩=some (.int .i64 (xI s j k).a)∧w.cell? ⟨cs j,os j+k*6+2,none⟩=some (.int .i64 (xI s j k).b)∧
    w.cell? ⟨cs j,os j+k*6+3,none⟩=some (.int .i64 (xI s j k).c)∧w.cell? ⟨cs j,os j+k*6+4,none⟩=some (.int .i64 (xI s j k).d)∧w.cell? ⟨cs j,os j+k*6+5,none⟩=some (.string (tb (xI s j k).name)))
  (hF:∀j,j<s.methods.length→∀k,k<(cJ s j).code.length→∀wx:World,ij w.heap.size w wx→Calls Tryz.prog 166 #[.agg (DU (xI s j k))] wx fun e w'=>e=.returned (.string (tb (jq (xI s j k))))∧ij wx.heap.size wx w'):
    Calls Tryz.prog 144 #[.agg #[.string (tb s.name),.slice (some ⟨c,o,none⟩) s.methods.length cap]] w fun e w'=>e=.returned (.string (tb (fmtS s)))∧ij w.heap.size w w':=by
  have hsn:s.name.length≤6:=by
    have:=List.all_eq_true.1 gV s hs
    simp only[Bool.and_eq_true,decide_eq_true_eq]at this
    exact this.1
  have z1:¬9223372036854775807<7+s.name.length:=by omega
  have z2:¬9223372036854775807<7+s.name.length+1:=by omega
  have h0:Hid (∀x y,Lib.IsBuilderF 177 5 (w.heap.size+1) (w.heap.size+1) (Lib.byteCells []) ((w.alloc x).alloc (.cells #[.pointer none,.slice none 0 0] y))∨y≠177):=Any.hidR (fun x y=>by
    by_cases hy:y=177
    · subst hy
      have e:(w.alloc x).heap.size=w.heap.size+1:=by simp
      exact .inl (by have:=Lib.IsBuilderF.of (Lib.fresh_isBuilder 177 5 (w.alloc x));rw[e]at this;exact this)
    · exact .inr hy)
  have hbox:Hid (∀x y,((w.alloc x).alloc y).heap[w.heap.size]? = some x):=Any.hidR (fun x y=>by
    have e1:=heap_alloc_new w x
    have:w.heap.size<(w.alloc x).heap.size:=by simp
    rw[Lib.alloc_old _ _ _ this];exact e1)
  have hbw:Hid (∀x y,ij w.heap.size w ((w.alloc x).alloc y)∧w.heap.size+1≤((w.alloc x).alloc y).heap.size):=Any.hidR (fun x y=>⟨ij.of (((Below.refl _ w).alloc (Nat.le_refl _) x).alloc (by simp) y),by simp⟩)
  go_enter Tryz.func144,Tryz.ntmps144
  go_wp2_with fail
  refine(Any.Builder_WriteString_k kR qE (w.heap.size+1) (w.heap.size+1) _ _ _ ((h0.out _ 177).resolve_right (by simp)) (by simp only[Lib.byteCells_length,List.length_nil];simp[ByteArray.size_append,dV];simp[ByteArray.size];omega) (hbw.out _ _).2).mono ?_
  rintro e W2 ⟨rfl,h2,hb2,_⟩
  have HB2:Hid (Lib.IsBuilderF 177 5 (w.heap.size+1) (w.heap.size+1) (Lib.byteCells (lM s 0)) W2):=Any.hidR (by
    have e:Lib.byteCells []++Lib.strCells ((⟨#[115,99,114,105,112,116,32]⟩:ByteArray)++tb s.name++⟨#[10]⟩)=Lib.byteCells (lM s 0):=by
      rw[Lib.strCells_eq,←Lib.byteCells_append,J5]
      congr 1
      first|done|simp[ByteArray.data_append,tb,bu]
    rw[←e];exact Or.inr h2)
  have HW2:=Any.hidR ((hbw.out _ _).1.trans ((ij.of hb2).mono (Nat.le_succ _)))
  have HZ2:=Any.hidR (Nat.le_trans (hbw.out _ _).2 hb2.size)
  have x0:=(hb2.block w.heap.size (Nat.lt_succ_self _)).trans (hbox.out _ _)
  have x1:W2.cell? ⟨w.heap.size,1,none⟩=some (.slice (some ⟨c,o,none⟩) s.methods.length cap):=by rw[Go.AM.cell_of x0];rfl
  clear h2 hb2 h0 hbox hbw x0
  go_wp2_with fail
  go_loopg [17] s.methods.length (fun g s17 wx=>∃j:Nat,s17=.int .i64 j∧j+g=s.methods.length∧Hid (Lib.IsBuilderF 177 5 (w.heap.size+1) (w.heap.size+1) (Lib.byteCells (lM s j)) wx)∧Hid (ij w.heap.size w wx)∧Hid (w.heap.size+1≤wx.heap.size))
  case atStart=>exact⟨0,rfl,by omega,HB2,HW2,HZ2⟩
  case round=>
    obtain⟨j,rfl,hjg,HB,HW,HZ⟩:=hrel
    clear HB2 HW2 HZ2 x1
    cases gk with
    | zero=>
      have hjn:j=s.methods.length:=by omega
      subst hjn
      go_wp2_with fail
      refine(Any.Builder_String_any_f xK qE (w.heap.size+1) (w.heap.size+1) _ wr HB.out HZ.out).mono ?_
      rintro e w5 ⟨rfl,_,hb5⟩
      have Hb5:=Any.hidR (HW.out.trans ((ij.of hb5).mono (Nat.le_succ _)))
      clear hb5
      go_wp2
      go_ret
      exact⟨by rw[Bt];rfl,Hb5.out⟩
    | succ g=>
      have hj:j<s.methods.length:=by omega
      have hj1:(0:Int)≤(j:Int):=by omega
      have hj2:(j:Int)<(s.methods.length:Int):=by omega
      obtain⟨c1,c2⟩:=hc j hj
      have x1:wr.cell? ⟨c,o+j*2,none⟩=some (.string (tb (cJ s j).name)):=(HW.out.cell hcw).trans c1
      have x2:wr.cell? ⟨c,o+j*2+1,none⟩=some (.slice (some ⟨cs j,os j,none⟩) (cJ s j).code.length (ps j)):=(HW.out.cell hcw).trans c2
      have hk:=hk12 j hj
      have hmn:(cJ s j).name.length≤6:=CQ hs (lO hj)
      have z3:¬9223372036854775807<7+(cJ s j).name.length:=by omega
      have z4:¬9223372036854775807<7+(cJ s j).name.length+1:=by omega
      have HI:=Any.hidR hjg
      have HBL:=Any.hidR (xr HB.out)
      have HBx:=fun(x:Obj)=>Any.hidR (HB.out.alloc x)
      have HWx:=fun(x:Obj)=>Any.hidR (HW.out.trans (ij.of ((Below.refl _ wr).alloc HW.out.size x)))
      have HZx:=fun(x:Obj)=>Any.hidR (Nat.le_trans HZ.out (((Below.refl wr.heap.size wr).alloc (Nat.le_refl _) x).size))
      have HXx:=fun(x:Obj)=>Any.hidR (heap_alloc_new wr x)
      have HNx:=Any.hidR (Nat.lt_of_lt_of_le (Nat.lt_succ_self w.heap.size) HZ.out)
      have HPL:=Any.hidR (Kg hs (show j<5 by omega))
      clear hjg c1 c2 HB HW HZ
      go_wp2_with fail
      refine(Any.Builder_WriteString_k kR qE (w.heap.size+1) (w.heap.size+1) _ _ _ (HBx _).out (by have:=HPL.out.1;rw[Lib.byteCells_length];simp[ByteArray.size_append,dV];simp[ByteArray.size];omega) (HZx _).out).mono ?_
      rintro e w3 ⟨rfl,h3,hb3,ho3⟩
      have HB3:Hid (Lib.IsBuilderF 177 5 (w.heap.size+1) (w.heap.size+1) (Lib.byteCells (kY s j 0)) w3):=Any.hidR (by
        have e:Lib.byteCells (lM s j)++Lib.strCells ((⟨#[109,101,116,104,111,100,32]⟩:ByteArray)++tb (cJ s j).name++⟨#[10]⟩)=Lib.byteCells (kY s j 0):=by
          rw[Lib.strCells_eq,←Lib.byteCells_append,Kz]
          congr 1
          first|done|simp[ByteArray.data_append,tb,bz]
        rw[←e];exact Or.inr h3)
      have HW3:=Any.hidR ((HWx _).out.trans ((ij.of hb3).mono (Nat.le_succ _)))
      have HZ3:=Any.hidR (Nat.le_trans (HZx _).out hb3.size)
      have x5:=ho3 _ _ (HXx _).out (by have:=HBL.out;intro e;injection e with e;omega) (fun c fz e=>by injection e with e1 e2;exact absurd e2 (by decide))
      have x6:w3.cell? ⟨wr.heap.size,1,none⟩=some (.slice (some ⟨cs j,os j,none⟩) (cJ s j).code.length (ps j)):=by rw[Go.AM.cell_of x5];rfl
      clear h3 hb3 ho3 HBx HWx HZx HXx x1 x2 x5
      go_wp2_with fail
      go_loopg [29] (cJ s j).code.length (fun g s29 wx=>∃k:Nat,s29=.int .i64 k∧k+g=(cJ s j).code.length∧Hid (Lib.IsBuilderF 177 5 (w.heap.size+1) (w.heap.size+1) (Lib.byteCells (kY s j k)) wx)∧Hid (ij w.heap.size w wx)∧Hid (w.heap.size+1≤wx.heap.size))
      case atStart=>exact⟨0,rfl,by omega,HB3,HW3,HZ3⟩
      case round=>
        obtain⟨k,rfl,hkg,HB,HW,HZ⟩:=hrel
        clear HB3 HW3 HZ3 x6
        cases gk with
        | zero=>
          have hkn:k=(cJ s j).code.length:=by omega
          subst hkn
          rw[Bo s hj]at HB
          go_wp2_with fail
          go_roundg g
          case measure=>omega
          case rel=>exact⟨j+1,by first|rfl|(simp;done),by have:=HI.out;omega,HB,HW,HZ⟩
        | succ g2=>
          have hkk:k<(cJ s j).code.length:=by omega
          have hk1:(0:Int)≤(k:Int):=by omega
          have hk2:(k:Int)<((cJ s j).code.length:Int):=by omega
          obtain⟨i0,i1,i2,i3,i4,i5⟩:=hx j hj k hkk
          have hcj:=hcs j hj
          have y0:wr.cell? ⟨cs j,os j+k*6,none⟩=some (.int .i64 (xI s j k).op):=(HW.out.cell hcj).trans i0
          have y1:wr.cell? ⟨cs j,os j+k*6+1,none⟩=some (.int .i64 (xI s j k).a):=(HW.out.cell hcj).trans i1
          have y2:wr.cell? ⟨cs j,os j+k*6+2,none⟩=some (.int .i64 (xI s j k).b):=(HW.out.cell hcj).trans i2
          have y3:wr.cell? ⟨cs j,os j+k*6+3,none⟩=some (.int .i64 (xI s j k).c):=(HW.out.cell hcj).trans i3
          have y4:wr.cell? ⟨cs j,os j+k*6+4,none⟩=some (.int .i64 (xI s j k).d):=(HW.out.cell hcj).trans i4
          have y5:wr.cell? ⟨cs j,os j+k*6+5,none⟩=some (.string (tb (xI s j k).name)):=(HW.out.cell hcj).trans i5
          have hfl:=Dm hs (lO hj) (zK hkk)
          have z5:¬9223372036854775807<(jq (xI s j k)).length+1:=by omega
          have hX:=fun(x:Obj)=>hF j hj k hkk (wr.alloc x) (HW.out.trans (ij.of ((Below.refl _ wr).alloc HW.out.size x)))
          have HBx:=fun(x:Obj)=>Any.hidR (HB.out.alloc x)
          have HWx:=fun(x:Obj)=>Any.hidR (HW.out.trans (ij.of ((Below.refl _ wr).alloc HW.out.size x)))
          have HZx:=fun(x:Obj)=>Any.hidR (Nat.le_trans HZ.out (((Below.refl wr.heap.size wr).alloc (Nat.le_refl _) x).size))
          have HKI:=Any.hidR hkg
          clear hkg i0 i1 i2 i3 i4 i5 HB HW HZ
          go_wp2_with fail
          refine(hX _).mono ?_
          rintro e w3 ⟨rfl,hw3⟩
          have HB3:=Any.hidR (nj (HBx _).out hw3)
          have HW3:=Any.hidR ((HWx _).out.trans (hw3.mono (HWx _).out.size))
          have HZ3:=Any.hidR (Nat.le_trans (HZx _).out hw3.size)
          clear hw3 hX HBx HWx HZx y0 y1 y2 y3 y4 y5
          go_wp2_with fail
          refine(Any.Builder_WriteString_k kR qE (w.heap.size+1) (w.heap.size+1) _ _ w3 HB3.out (by have:=HPL.out.2 k (by omega);rw[Lib.byteCells_length];simp[ByteArray.size_append,dV];simp[ByteArray.size];omega) HZ3.out).mono ?_
          rintro e w5 ⟨rfl,h5,hb5,_⟩
          have HB5:Hid (Lib.IsBuilderF 177 5 (w.heap.size+1) (w.heap.size+1) (Lib.byteCells (kY s j (k+1))) w5):=Any.hidR (by
            have e:Lib.byteCells (kY s j k)++Lib.strCells (tb (jq (xI s j k))++⟨#[10]⟩)=Lib.byteCells (kY s j (k+1)):=by
              rw[Lib.strCells_eq,←Lib.byteCells_append,At s hkk]
              congr 1
              first|done|simp[ByteArray.data_append,tb]
            rw[←e];exact Or.inr h5)
          have HW5:=Any.hidR (HW3.out.trans ((ij.of hb5).mono (Nat.le_succ _)))
          have HZ5:=Any.hidR (Nat.le_trans HZ3.out hb5.size)
          clear h5 hb5 HB3 HW3 HZ3
          go_wp2
          go_roundg g2
          case measure=>omega
          case rel=>exact⟨k+1,by first|rfl|(simp;done),by have:=HKI.out;omega,HB5,HW5,HZ5⟩
end Go.Proofs.YtdlbaonelfcahaaGreatDoor
namespace Go.Proofs.YtdlbaonelfcahaaGreatDoor
open Go.AM Go.Shelf Go.RowKit Go.Proofs
theorem pk{ρ:cN}{h:AH}{w:World}(rh:RH ρ [] [] h w){β:Bool}{sz:Nat}{xs:List (List AV)}{v:Value}(rv:RV ρ [] (.vs β sz false xs) v)(h0:xs≠[])(hne:∀l∈xs,l≠[]):
    ∃(c o cap:Nat) (f:Nat→Nat→Value),v=.slice (some ⟨c,o,none⟩) xs.length cap∧c<w.heap.size∧∀(i:Nat) (l:List AV),xs[i]? = some l→∀(j:Nat) (x:AV),l[j]? = some x→w.cell? ⟨c,o+(i*sz+j),none⟩=some (f i j)∧RV ρ [] x (f i j):=by
  cases rv with
  | vs _ _ _ _ _ c o cap f g1 g2 g3 g4 rr=>
    refine⟨c,o,cap,f,rfl,?_,fun i l hi j x hx=>?_⟩
    · obtain⟨y,ys,rfl⟩:=List.exists_cons_of_ne_nil h0
      obtain⟨z,zs,rfl⟩:=List.exists_cons_of_ne_nil (hne y (by simp))
      obtain⟨arr,a1,_⟩:=g4 0 _ rfl 0 _ rfl
      exact rh.vn a1
    · obtain⟨arr,a1,a2⟩:=g4 i l hi j x hx
      obtain⟨T,fr,a4⟩:=rh.im _ _ _ a1
      exact⟨by rw[cell_of a4];exact a2,rr i l hi j x hx⟩
  | vs0=>exact absurd rfl h0
  | vsn=>exact absurd rfl h0
structure SJ (w:World) (s:bj) (v:Value):Prop where
  get:∃(c o cap:Nat) (cs os ps:Nat→Nat),v=.slice (some ⟨c,o,none⟩) s.methods.length cap∧c<w.heap.size∧(∀j,j<s.methods.length→cs j<w.heap.size)∧
    (∀j,j<s.methods.length→w.cell? ⟨c,o+j*2,none⟩=some (.string (tb (cJ s j).name))∧w.cell? ⟨c,o+j*2+1,none⟩=some (.slice (some ⟨cs j,os j,none⟩) (cJ s j).code.length (ps j)))∧
    (∀j,j<s.methods.length→∀k,k<(cJ s j).code.length→
      w.cell? ⟨cs j,os j+k*6,none⟩=some (.int .i64 (xI s j k).op)∧w.cell? ⟨cs j,os j+k*6+1,none⟩=some (.int .i64 (xI s j k).a)∧w.cell? ⟨cs j,os j+k*6+2,none⟩=some (.int .i64 (xI s j k).b)∧
      w.cell? ⟨cs j,os j+k*6+3,none⟩=some (.int .i64 (xI s j k).c)∧w.cell? ⟨cs j,os j+k*6+4,none⟩=some (.int .i64 (xI s j k).d)∧w.cell? ⟨cs j,os j+k*6+5,none⟩=some (.string (tb (xI s j k).name)))
theorem K6:gO.all (fun s=>decide (s.methods≠[]) && s.methods.all fun m=>decide (m.code≠[]))=true:=by decide +kernel
theorem xF{ρ:cN}{b:ByteArray}{v:Value}(r:RV ρ [] (.str b) v):v=.string b:=by cases r;rfl
theorem qw{ρ:cN}{n:Int}{v:Value}(r:RV ρ [] (.int .i64 n) v):v=.int .i64 n:=by cases r;rfl
theorem Ku{ρ:cN}{h:AH}{w:World}(rh:RH ρ [] [] h w){s:bj}(hs:s∈gO){v:Value}(rv:RV ρ [] (.vs true 2 false (s.D.methods.map (aJ.c true))) v):SJ w s v:=by
  have ne:=List.all_eq_true.1 K6 s hs
  simp only[Bool.and_eq_true,decide_eq_true_eq,List.all_eq_true]at ne
  have e1:s.D.methods.map (aJ.c true)=s.methods.map fun m=>[.str (tb m.name),.vs true 6 false (m.code.map bI)]:=by
    simp[bj.D,Function.comp_def,cD.D,aJ.c,aN.c,bJ.D,bI]
  rw[e1]at rv
  obtain⟨c,o,cap,f,rfl,hc,hf⟩:=pk rh rv (by simpa using ne.1) (fun l hl=>by obtain⟨m,_,rfl⟩:=List.mem_map.1 hl;simp)
  have key:∀j,∃t:Nat×Nat×Nat,j<s.methods.length→t.1<w.heap.size∧w.cell? ⟨c,o+j*2,none⟩=some (.string (tb (cJ s j).name))∧w.cell? ⟨c,o+j*2+1,none⟩=some (.slice (some ⟨t.1,t.2.1,none⟩) (cJ s j).code.length t.2.2)∧
      ∀k,k<(cJ s j).code.length→
      w.cell? ⟨t.1,t.2.1+k*6,none⟩=some (.int .i64 (xI s j k).op)∧w.cell? ⟨t.1,t.2.1+k*6+1,none⟩=some (.int .i64 (xI s j k).a)∧w.cell? ⟨t.1,t.2.1+k*6+2,none⟩=some (.int .i64 (xI s j k).b)∧
      w.cell? ⟨t.1,t.2.1+k*6+3,none⟩=some (.int .i64 (xI s j k).c)∧w.cell? ⟨t.1,t.2.1+k*6+4,none⟩=some (.int .i64 (xI s j k).d)∧w.cell? ⟨t.1,t.2.1+k*6+5,none⟩=some (.string (tb (xI s j k).name)):=fun j=>by
    by_cases hj:j<s.methods.length
    rotate_left
    · exact⟨(0,0,0),fun h=>absurd h hj⟩
    have em:(s.methods.map fun m=>[AV.str (tb m.name),.vs true 6 false (m.code.map bI)])[j]? = some [AV.str (tb (cJ s j).name),.vs true 6 false ((cJ s j).code.map bI)]:=by
      rw[List.getElem?_map,List.getElem?_eq_getElem hj]
      simp[cJ,hj]
    obtain⟨a1,a2⟩:=hf j _ em 0 _ rfl
    obtain⟨b1,b2⟩:=hf j _ em 1 _ rfl
    have a2:=xF a2
    rw[a2]at a1
    obtain⟨c2,o2,cap2,f2,e2,hc2,hf2⟩:=pk rh b2 (by simpa using ne.2 _ (lO hj)) (fun l hl=>by obtain⟨m,_,rfl⟩:=List.mem_map.1 hl;simp[bI])
    rw[e2,List.length_map]at b1
    refine⟨(c2,o2,cap2),fun _=>⟨hc2,a1,b1,fun k hk=>?_⟩⟩
    have ex:((cJ s j).code.map bI)[k]? = some (bI (xI s j k)):=by
      rw[List.getElem?_map,List.getElem?_eq_getElem hk]
      simp[xI,hk]
    obtain⟨p0,q0⟩:=hf2 k _ ex 0 _ rfl
    obtain⟨p1,q1⟩:=hf2 k _ ex 1 _ rfl
    obtain⟨p2,q2⟩:=hf2 k _ ex 2 _ rfl
    obtain⟨p3,q3⟩:=hf2 k _ ex 3 _ rfl
    obtain⟨p4,q4⟩:=hf2 k _ ex 4 _ rfl
    obtain⟨p5,q5⟩:=hf2 k _ ex 5 _ rfl
    rw[qw q0]at p0;rw[qw q1]at p1;rw[qw q2]at p2;rw[qw q3]at p3;rw[qw q4]at p4;rw[xF q5]at p5
    exact⟨p0,p1,p2,p3,p4,p5⟩
  obtain⟨t,ht⟩:=Classical.skolem.1 key
  exact⟨c,o,cap,fun j=>(t j).1,fun j=>(t j).2.1,fun j=>(t j).2.2,by rw[List.length_map],hc,fun j hj=>(ht j hj).1,fun j hj=>⟨(ht j hj).2.1,(ht j hj).2.2.1⟩,fun j hj k hk=>(ht j hj).2.2.2 k hk⟩
inductive Pv:AV→Prop
  | int (k:IntKind) (n:Int):Pv (.int k n)
  | str (s:ByteArray):Pv (.str s)
  | vs (β:Bool) (sz:Nat) (ex:Bool) (xs:List (List AV)) (h:∀(i:Nat) (l:List AV),xs[i]? = some l→∀(j:Nat) (x:AV),l[j]? = some x→Pv x):Pv (.vs β sz ex xs)
theorem Pv.rv{x:AV}(p:Pv x):∀{ρ:cN} {v:Value},RV ρ [] x v→RV (Lg ρ) [] x v:=by
  induction p with
  | int=>intro ρ v r;cases r;exact .int _ _ _
  | str=>intro ρ v r;cases r;exact .str _ _
  | vs β sz ex xs h ih=>
    intro ρ v r
    cases r with
    | vs _ _ _ _ _ c o cap f g1 g2 g3 g4 rr=>exact .vs _ _ _ _ _ c o cap f g1 g2 g3 g4 (fun i l hi j x hx=>ih i l hi j x hx (rr i l hi j x hx))
    | vs0 _ _ _ _ a cap h2=>exact .vs0 _ _ _ _ a cap h2
    | vsn=>exact .vsn _ _ _ _
theorem Pv.map{α:Type}(β:Bool)(sz:Nat)(l:List α)(c:α→List AV)(h:∀x∈l,∀y∈c x,Pv y):Pv (.vs β sz false (l.map c)):=.vs _ _ _ _ (fun i r hr j x hx=>by
  obtain⟨y,hy,rfl⟩:=List.mem_map.1 (List.mem_of_getElem? hr)
  exact h y hy x (List.mem_of_getElem? hx))
theorem KV(β:Bool):Pv (.vs β 2 false (dP.map (aB.c β))):=Pv.map _ _ _ _ fun s _ y hy=>by
  simp only[aB.c,List.mem_cons,List.not_mem_nil,or_false]at hy
  rcases hy with rfl|rfl
  · exact .str _
  · refine Pv.map _ _ _ _ fun m _ y hy=>?_
    simp only[aJ.c,List.mem_cons,List.not_mem_nil,or_false]at hy
    rcases hy with rfl|rfl
    · exact .str _
    · refine Pv.map _ _ _ _ fun x _ y hy=>?_
      simp only[aN.c,List.mem_cons,List.not_mem_nil,or_false]at hy
      rcases hy with rfl|rfl|rfl|rfl|rfl|rfl<;>first|exact .int _ _|exact .str _
theorem YO:dO Tryz.prog 111:=⟨Tryz.f111,aG Tryz.f111,Tryz.func111,by kernel_rfl,by kernel_rfl⟩
theorem vx{i:Nat}(hi:i<4):sI i∈gO:=by
  have hl:i<gO.length:=by rw[l9];exact hi
  unfold sI;rw[List.getD_eq_getElem?_getD,List.getElem?_eq_getElem hl];exact List.getElem_mem hl
theorem Au{s:bj}(hs:s∈gO):s.methods.length≤4∧∀j,j<s.methods.length→(cJ s j).code.length≤12:=by
  have:=List.all_eq_true.1 gV s hs
  simp only[Bool.and_eq_true,List.all_eq_true,decide_eq_true_eq]at this
  exact⟨this.2.1,fun j hj=>(this.2.2 _ (lO hj)).2.1⟩
set_option maxHeartbeats 1600000 in
theorem Mv{Γ:bG}(hΓ:ik Γ)(h:AH):T Tryz.prog Γ Fn.VS [.vs true 2 false (dP.map (aB.c true))] h fun v h'=>v=.str (tb dH)∧h'=h:=by
  refine⟨YO,fun ρ w cargs r gg ra=>?_⟩
  obtain⟨v,rfl,rv⟩:=qB ra
  have rv0:=(KV true).rv rv
  have im:pv ρ w:=r.im
  have hIT:=(He (Γ:=only Γ) true dP ou (fun s hs=>(oO s hs).ok) []).2 (Lg ρ) w [v] im.rh (uu.only gg) ⟨rfl,fun i x hx=>by
    match i,hx with
    | 0,hx=>simp at hx;subst hx;exact rv0
    | n+1,hx=>simp at hx⟩
  obtain⟨c,o,cap,f,rfl,hc,hf⟩:=pk r rv (by
    intro e
    have:=congrArg List.length e
    rw[List.length_map,j9]at this
    cases this) (fun l hl=>by obtain⟨m,_,rfl⟩:=List.mem_map.1 hl;simp[aB.c])
  rw[List.length_map,j9]at hIT ⊢
  have key:∀i,∃t:Nat×Nat×Nat,i<4→w.cell? ⟨c,o+i*2,none⟩=some (.string (tb (sI i).name))∧w.cell? ⟨c,o+i*2+1,none⟩=some (.slice (some ⟨t.1,t.2.1,none⟩) (sI i).methods.length t.2.2)∧
      ∀wx:World,ij w.heap.size w wx→Calls Tryz.prog 144 #[.agg #[.string (tb (sI i).name),.slice (some ⟨t.1,t.2.1,none⟩) (sI i).methods.length t.2.2]] wx fun e w'=>e=.returned (.string (tb (fmtS (sI i))))∧ij wx.heap.size wx w':=fun i=>by
    by_cases hi:i<4
    rotate_left
    · exact⟨(0,0,0),fun h=>absurd h hi⟩
    have em:(dP.map (aB.c true))[i]? = some (aB.c true (sI i).D):=by
      have hl:i<gO.length:=by rw[l9];exact hi
      unfold dP
      rw[List.getElem?_map,List.getElem?_map,List.getElem?_eq_getElem hl]
      simp[sI,hl]
    obtain⟨a1,a2⟩:=hf i _ em 0 _ rfl
    obtain⟨b1,b2⟩:=hf i _ em 1 _ rfl
    rw[xF a2]at a1
    obtain⟨c2,o2,cap2,cs,os,ps,e2,hc2,q1,q2,q3⟩:=(Ku r (vx hi) b2).get
    rw[e2]at b1
    refine⟨(c2,o2,cap2),fun _=>⟨a1,b1,fun wx hb=>?_⟩⟩
    obtain⟨s1,s2⟩:=Au (vx hi)
    refine lT (vx hi) wx c2 o2 cap2 cs os ps (Nat.lt_of_lt_of_le hc2 hb.size) s1 s2 (fun j hj=>Nat.lt_of_lt_of_le (q1 j hj) hb.size) (fun j hj=>⟨(hb.cell hc2).trans (q2 j hj).1,(hb.cell hc2).trans (q2 j hj).2⟩) (fun j hj k hk=>?_) (fun j hj k hk wy hy=>?_)
    · obtain⟨p0,p1,p2,p3,p4,p5⟩:=q3 j hj k hk
      have hcj:=q1 j hj
      exact⟨(hb.cell hcj).trans p0,(hb.cell hcj).trans p1,(hb.cell hcj).trans p2,(hb.cell hcj).trans p3,(hb.cell hcj).trans p4,(hb.cell hcj).trans p5⟩
    · obtain⟨cl,hcl,ex⟩:=oD (vx hi) (lO hj) (zK hk)
      have hff:=lW hΓ gg (im.UM (hb.trans (hy.mono hb.size))) hcl
      have k4:=(iz hcl).2.2.2.1
      rw[ex,k4]
      exact hff
  obtain⟨t,ht⟩:=Classical.skolem.1 key
  have hfin:=kM w c o cap (fun i=>tb (sI i).name) (fun i=>(t i).1) (fun i=>(t i).2.1) (fun i=>(sI i).methods.length) (fun i=>(t i).2.2) hc (fun i hi=>⟨(ht i hi).1,(ht i hi).2.1⟩) (hIT.mono (by
    rintro e w' ⟨v',cv,ρ',h',rfl,rv',_,ev,rfl,rfl⟩
    cases rv'
    exact⟨rfl,gW.UM ev⟩)) (fun i hi wx hb=>(ht i hi).2.2 wx hb)
  refine hfin.mono ?_
  rintro e w' ⟨rfl,hb⟩
  exact⟨_,_,ρ,h,rfl,.str _ _,r.kL hb.size hb.block,.kL hb.size hb.block hb.os hb.output,rfl,rfl⟩
end Go.Proofs.YtdlbaonelfcahaaGreatDoor
