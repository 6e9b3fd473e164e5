import Derived.Test.YteaebikmfmggbaaDoorAmLaws
set_option linter.unusedVariables false
set_option linter.unusedSimpArgs false
namespace Go.AM
inductive CD where
  | i (k : IntKind) (n : Int) | b (x : Bool) | s (x : ByteArray) | sl (sz : Nat) (xs : List (List CD))
  deriving Inhabited
mutual
def CD.av (β : Bool) : CD → AV
  | .i k n => .int k n
  | .b x => .bool x
  | .s x => .str x
  | .sl sz xs => .vs β sz false (CD.avLL β xs)
def CD.avL (β : Bool) : List CD → List AV
  | [] => []
  | d :: r => d.av β :: CD.avL β r
def CD.avLL (β : Bool) : List (List CD) → List (List AV)
  | [] => []
  | d :: r => CD.avL β d :: CD.avLL β r
end
theorem CD.avL_eq (β : Bool) : ∀ (l : List CD), CD.avL β l = l.map (CD.av β)
  | [] => rfl
  | d :: r => by simp [CD.avL, CD.avL_eq β r]
theorem CD.avLL_eq (β : Bool) : ∀ (l : List (List CD)), CD.avLL β l = l.map fun x => x.map (CD.av β)
  | [] => rfl
  | d :: r => by simp [CD.avLL, CD.avL_eq, CD.avLL_eq β r]
theorem CD.av_i (β : Bool) (k : IntKind) (n : Int) : (CD.i k n).av β = .int k n := by simp [CD.av]
theorem CD.av_b (β x : Bool) : (CD.b x).av β = .bool x := by simp [CD.av]
theorem CD.av_s (β : Bool) (x : ByteArray) : (CD.s x).av β = .str x := by simp [CD.av]
theorem CD.av_sl (β : Bool) (sz : Nat) (xs : List (List CD)) : (CD.sl sz xs).av β = .vs β sz false (xs.map fun x => x.map (CD.av β)) := by simp [CD.av, CD.avLL_eq]
theorem CD.noLp (β : Bool) (d : CD) : Go.AM.noLp (d.av β) = true := by cases d <;> simp [CD.av, Go.AM.noLp]
theorem CD.isCell (β : Bool) (d : CD) : Go.AM.isCell (d.av β) = true := isCell_of_noLp (d.noLp β)
inductive atom : AV → Prop
  | i (k : IntKind) (n : Int) : atom (.int k n)
  | b (x : Bool) : atom (.bool x)
  | s (x : ByteArray) : atom (.str x)
  | ns : atom .nils
  | np : atom .nilp
inductive Own (h : AH) : AV → CD → List Nat → Prop
  | i (k : IntKind) (n : Int) : Own h (.int k n) (.i k n) []
  | b (x : Bool) : Own h (.bool x) (.b x) []
  | s (x : ByteArray) : Own h (.str x) (.s x) []
  | nil (sz : Nat) : Own h .nils (.sl sz []) []
  | gs (b g len cap sz : Nat) (ex : Bool) (as tail : List AV) (xs : List (List CD)) (fps : List (List Nat))
      (h1 : hget h b = some (g, as ++ tail)) (h2 : xs.length = len) (h3 : ∀ l ∈ xs, l.length = sz) (h4 : as.length = xs.flatten.length) (ht : ∀ x ∈ tail, atom x) (hc : len ≤ cap ∧ (cap - len) * sz ≤ tail.length)
      (hf : fps.length = as.length) (r : ∀ (i : Nat) (a : AV) (d : CD) (fp : List Nat), as[i]? = some a → xs.flatten[i]? = some d → fps[i]? = some fp → Own h a d fp) :
      Own h (.gs b g 0 len cap sz ex) (.sl sz xs) (b :: fps.flatten)
def OwnL (h : AH) : List AV → List CD → List Nat → Prop
  | [], [], fp => fp = []
  | a :: as, d :: ds, fp => ∃ f1 f2, fp = f1 ++ f2 ∧ Own h a d f1 ∧ OwnL h as ds f2
  | _, _, _ => False
theorem OwnL.len {h : AH} : ∀ {as : List AV} {ds : List CD} {fp : List Nat}, OwnL h as ds fp → as.length = ds.length
  | [], [], _, _ => rfl
  | a :: as, d :: ds, fp, hh => by obtain ⟨_, _, _, _, h2⟩ := hh; simp [OwnL.len h2]
  | [], _ :: _, _, hh => hh.elim
  | _ :: _, [], _, hh => hh.elim
theorem OwnL.of {h : AH} : ∀ {as : List AV} {ds : List CD} {fps : List (List Nat)}, as.length = ds.length → fps.length = as.length →
    (∀ (i : Nat) (a : AV) (d : CD) (fp : List Nat), as[i]? = some a → ds[i]? = some d → fps[i]? = some fp → Own h a d fp) → OwnL h as ds fps.flatten
  | [], [], [], _, _, _ => rfl
  | a :: as, d :: ds, f :: fps, h1, h2, r => ⟨f, fps.flatten, rfl, r 0 a d f rfl rfl rfl, OwnL.of (by simpa using h1) (by simpa using h2) (fun i a d fp e1 e2 e3 => r (i + 1) a d fp (by simpa using e1) (by simpa using e2) (by simpa using e3))⟩
theorem OwnL.to {h : AH} : ∀ {as : List AV} {ds : List CD} {fp : List Nat}, OwnL h as ds fp → ∃ fps : List (List Nat), fps.length = as.length ∧ fp = fps.flatten ∧
    ∀ (i : Nat) (a : AV) (d : CD) (fp : List Nat), as[i]? = some a → ds[i]? = some d → fps[i]? = some fp → Own h a d fp
  | [], [], fp, hh => ⟨[], rfl, hh, fun i a d fp e1 => by simp at e1⟩
  | a :: as, d :: ds, fp, hh => by
    obtain ⟨f1, f2, rfl, h1, h2⟩ := hh
    obtain ⟨fps, e1, rfl, e3⟩ := OwnL.to h2
    refine ⟨f1 :: fps, by simp [e1], rfl, fun i a' d' fp' g1 g2 g3 => ?_⟩
    cases i with
    | zero => simp at g1 g2 g3; subst g1 g2 g3; exact h1
    | succ i => exact e3 i a' d' fp' (by simpa using g1) (by simpa using g2) (by simpa using g3)
theorem own_i {h : AH} {a : AV} {k : IntKind} {n : Int} {fp : List Nat} : Own h a (.i k n) fp ↔ a = .int k n ∧ fp = [] :=
  ⟨fun o => by cases o; exact ⟨rfl, rfl⟩, fun ⟨h1, h2⟩ => by subst h1 h2; exact .i _ _⟩
theorem own_b {h : AH} {a : AV} {x : Bool} {fp : List Nat} : Own h a (.b x) fp ↔ a = .bool x ∧ fp = [] :=
  ⟨fun o => by cases o; exact ⟨rfl, rfl⟩, fun ⟨h1, h2⟩ => by subst h1 h2; exact .b _⟩
theorem own_s {h : AH} {a : AV} {x : ByteArray} {fp : List Nat} : Own h a (.s x) fp ↔ a = .str x ∧ fp = [] :=
  ⟨fun o => by cases o; exact ⟨rfl, rfl⟩, fun ⟨h1, h2⟩ => by subst h1 h2; exact .s _⟩
theorem OwnL.append {h : AH} : ∀ {as bs : List AV} {ds es : List CD} {f1 f2 : List Nat}, OwnL h as ds f1 → OwnL h bs es f2 → OwnL h (as ++ bs) (ds ++ es) (f1 ++ f2)
  | [], bs, [], es, f1, f2, h1, h2 => by cases h1; exact h2
  | a :: as, bs, d :: ds, es, f1, f2, ⟨g1, g2, e, o1, o2⟩, h2 => by subst e; exact ⟨g1, g2 ++ f2, by simp, o1, OwnL.append o2 h2⟩
theorem OwnL.split {h : AH} : ∀ {as : List AV} {ds es : List CD} {fp : List Nat}, OwnL h as (ds ++ es) fp → ∃ a1 a2 f1 f2, as = a1 ++ a2 ∧ fp = f1 ++ f2 ∧ OwnL h a1 ds f1 ∧ OwnL h a2 es f2
  | as, [], es, fp, o => ⟨[], as, [], fp, rfl, rfl, rfl, o⟩
  | a :: as, d :: ds, es, fp, ⟨g1, g2, e, o1, o2⟩ => by
    subst e
    obtain ⟨a1, a2, f1, f2, e1, e2, o3, o4⟩ := OwnL.split o2
    subst e1 e2
    exact ⟨a :: a1, a2, g1 ++ f1, f2, rfl, by simp, ⟨g1, f1, rfl, o1, o3⟩, o4⟩
  | [], d :: ds, es, fp, o => o.elim
theorem hget_congr {h h' : AH} {b : Nat} (e : h'[b]? = h[b]?) : hget h' b = hget h b := by simp [hget, e]
theorem Own.frame {h h' : AH} {a : AV} {d : CD} {fp : List Nat} (o : Own h a d fp) : (∀ b ∈ fp, h'[b]? = h[b]?) → Own h' a d fp := by
  induction o with
  | i => exact fun _ => .i _ _
  | b => exact fun _ => .b _
  | s => exact fun _ => .s _
  | nil => exact fun _ => .nil _
  | gs b g len cap sz ex as tail xs fps h1 h2 h3 h4 ht hc hf r ih =>
    intro hh
    refine .gs b g len cap sz ex as tail xs fps (by rw [hget_congr (hh b (by simp))]; exact h1) h2 h3 h4 ht hc hf (fun i a d fp e1 e2 e3 => ih i a d fp e1 e2 e3 fun c hc => hh c ?_)
    exact List.mem_cons_of_mem _ (List.mem_flatten.2 ⟨fp, List.mem_of_getElem? e3, hc⟩)
theorem OwnL.frame {h h' : AH} : ∀ {as : List AV} {ds : List CD} {fp : List Nat}, OwnL h as ds fp → (∀ b ∈ fp, h'[b]? = h[b]?) → OwnL h' as ds fp
  | [], [], _, o, _ => o
  | a :: as, d :: ds, fp, ⟨f1, f2, e, o1, o2⟩, hh => by
    subst e
    exact ⟨f1, f2, rfl, o1.frame fun b hb => hh b (by simp [hb]), OwnL.frame o2 fun b hb => hh b (by simp [hb])⟩
theorem Own.lt {h : AH} {a : AV} {d : CD} {fp : List Nat} (o : Own h a d fp) : ∀ b ∈ fp, b < h.length := by
  induction o with
  | gs b g len cap sz ex as tail xs fps h1 h2 h3 h4 ht hc hf r ih =>
    intro c hc
    rcases List.mem_cons.1 hc with rfl | hc
    · exact getElem?_lt (hget_spec h1)
    · obtain ⟨fp, hfp, hc⟩ := List.mem_flatten.1 hc
      obtain ⟨i, hi⟩ := List.mem_iff_getElem?.1 hfp
      have hlt := getElem?_lt hi
      exact ih i _ _ fp (List.getElem?_eq_getElem (by omega)) (List.getElem?_eq_getElem (by omega)) hi c hc
  | _ => intro b hb; simp at hb
theorem OwnL.lt {h : AH} : ∀ {as : List AV} {ds : List CD} {fp : List Nat}, OwnL h as ds fp → ∀ b ∈ fp, b < h.length
  | [], [], _, o => by cases o; intro b hb; simp at hb
  | a :: as, d :: ds, fp, ⟨f1, f2, e, o1, o2⟩ => by
    subst e
    intro b hb
    rcases List.mem_append.1 hb with hb | hb
    · exact o1.lt b hb
    · exact OwnL.lt o2 b hb
theorem Own.grow {h new : AH} {a : AV} {d : CD} {fp : List Nat} (o : Own h a d fp) : Own (h ++ new) a d fp :=
  o.frame fun b hb => List.getElem?_append_left (o.lt b hb)
theorem OwnL.grow {h new : AH} {as : List AV} {ds : List CD} {fp : List Nat} (o : OwnL h as ds fp) : OwnL (h ++ new) as ds fp :=
  o.frame fun b hb => List.getElem?_append_left (o.lt b hb)
theorem Own.noLp {h : AH} {a : AV} {d : CD} {fp : List Nat} (o : Own h a d fp) : Go.AM.noLp a = true := by cases o <;> rfl
theorem OwnL.noLp {h : AH} : ∀ {as : List AV} {ds : List CD} {fp : List Nat}, OwnL h as ds fp → as.all Go.AM.noLp = true
  | [], [], _, _ => rfl
  | a :: as, d :: ds, fp, ⟨f1, f2, e, o1, o2⟩ => by simp [o1.noLp, OwnL.noLp o2]
theorem Own.nb {h : AH} {base : Nat} {a : AV} {d : CD} {fp : List Nat} (o : Own h a d fp) (hb : ∀ b ∈ fp, base ≤ b) : NB base a := by
  cases o with
  | i => exact .int _ _
  | b => exact .bool _
  | s => exact .str _
  | nil => exact .nils
  | gs => exact .gs _ _ _ _ _ _ _ (hb _ (by simp))
theorem atom.nb {a : AV} (h : atom a) (base : Nat) : NB base a := by cases h <;> constructor
theorem OwnL.nb {h : AH} {base : Nat} : ∀ {as : List AV} {ds : List CD} {fp : List Nat}, OwnL h as ds fp → (∀ b ∈ fp, base ≤ b) → ∀ x ∈ as, NB base x
  | [], [], _, _, _ => fun x hx => by simp at hx
  | a :: as, d :: ds, fp, ⟨f1, f2, e, o1, o2⟩, hb => by
    subst e
    intro x hx
    rcases List.mem_cons.1 hx with rfl | hx
    · exact o1.nb fun b h => hb b (by simp [h])
    · exact OwnL.nb o2 (fun b h => hb b (by simp [h])) x hx
theorem Own.nbh {h : AH} {base : Nat} {a : AV} {d : CD} {fp : List Nat} (o : Own h a d fp) : (∀ b ∈ fp, base ≤ b) → ∀ b ∈ fp, ∀ g cs, h[b]? = some (some (g, cs)) → ∀ x ∈ cs, NB base x := by
  induction o with
  | gs b g len cap sz ex as tail xs fps h1 h2 h3 h4 ht hc hf r ih =>
    intro hb c hc g' cs hcs x hx
    rcases List.mem_cons.1 hc with rfl | hc
    · have := hget_spec h1
      rw [this] at hcs
      injection hcs with hcs
      injection hcs with hcs
      injection hcs with e1 e2
      subst e1 e2
      rcases List.mem_append.1 hx with hx | hx
      · exact (OwnL.of h4 hf r).nb (fun b h => hb b (by simp [h])) x hx
      · exact (ht x hx).nb base
    · obtain ⟨fp, hfp, hc⟩ := List.mem_flatten.1 hc
      obtain ⟨i, hi⟩ := List.mem_iff_getElem?.1 hfp
      have hlt := getElem?_lt hi
      exact ih i _ _ fp (List.getElem?_eq_getElem (by omega)) (List.getElem?_eq_getElem (by omega)) hi (fun b h => hb b (List.mem_cons_of_mem _ (List.mem_flatten.2 ⟨fp, hfp, h⟩))) c hc g' cs hcs x hx
  | _ => intro _ b hb; simp at hb
theorem flat_at {α : Type} {sz : Nat} : ∀ {xs : List (List α)} {i j : Nat} {l : List α} {x : α}, (∀ l ∈ xs, l.length = sz) → xs[i]? = some l → l[j]? = some x → xs.flatten[i * sz + j]? = some x
  | l' :: xs, 0, j, l, x, _, h1, h2 => by
    simp at h1; subst h1
    rw [List.flatten_cons, Nat.zero_mul, Nat.zero_add, List.getElem?_append_left (getElem?_lt h2)]; exact h2
  | l' :: xs, i + 1, j, l, x, h, h1, h2 => by
    rw [List.flatten_cons, Nat.succ_mul, List.getElem?_append_right (by rw [h l' (by simp)]; omega), h l' (by simp), show i * sz + sz + j - sz = i * sz + j by omega]
    exact flat_at (fun l hl => h l (by simp [hl])) (by simpa using h1) h2
theorem Own.view {h : AH} {a : AV} {d : CD} {fp : List Nat} (o : Own h a d fp) : Snap h a (d.av true) ∧ ∀ base, (∀ b ∈ fp, base ≤ b) → Frz base h a (d.av false) := by
  induction o with
  | i => rw [CD.av_i, CD.av_i]; exact ⟨.same _, fun _ _ => .same _ (.int _ _)⟩
  | b => rw [CD.av_b, CD.av_b]; exact ⟨.same _, fun _ _ => .same _ (.bool _)⟩
  | s => rw [CD.av_s, CD.av_s]; exact ⟨.same _, fun _ _ => .same _ (.str _)⟩
  | nil => rw [CD.av_sl, CD.av_sl]; exact ⟨.nil _ _, fun _ _ => .nil _ _⟩
  | gs b g len cap sz ex as tail xs fps h1 h2 h3 h4 ht hc hf r ih =>
    subst h2
    rw [CD.av_sl, CD.av_sl]
    have look : ∀ (β : Bool) (i : Nat) (l : List AV), (xs.map fun x => x.map (CD.av β))[i]? = some l → ∃ m, xs[i]? = some m ∧ l = m.map (CD.av β) := by
      intro β i l hl
      rw [List.getElem?_map, Option.map_eq_some_iff] at hl
      obtain ⟨m, hm, rfl⟩ := hl
      exact ⟨m, hm, rfl⟩
    have cell : ∀ (β : Bool) (i j : Nat) (l : List AV) (x : AV), (xs.map fun x => x.map (CD.av β))[i]? = some l → l[j]? = some x → ∃ a d fp, as[i * sz + j]? = some a ∧ xs.flatten[i * sz + j]? = some d ∧ fps[i * sz + j]? = some fp ∧ x = d.av β := by
      intro β i j l x hl hx
      obtain ⟨m, hm, rfl⟩ := look β i l hl
      rw [List.getElem?_map, Option.map_eq_some_iff] at hx
      obtain ⟨d, hd, rfl⟩ := hx
      have hd' := flat_at h3 hm hd
      have hlt := getElem?_lt hd'
      exact ⟨_, d, _, List.getElem?_eq_getElem (by omega), hd', List.getElem?_eq_getElem (by omega), rfl⟩
    refine ⟨.gs b g 0 _ cap sz ex false (as ++ tail) _ (fun i j => as.getD (i * sz + j) .any) (hget_spec h1) (by simp) (by simp) ?_ ?_ ?_, fun base hb => .gs b g 0 _ cap sz ex false (as ++ tail) _ (fun i j => as.getD (i * sz + j) .any) (hb b (by simp)) (hget_spec h1) (by simp) (by simp) ?_ ?_ ?_⟩
    · intro i l hl; obtain ⟨m, hm, rfl⟩ := look _ i l hl; simpa using h3 m (List.mem_of_getElem? hm)
    · intro i l hl j x hx
      obtain ⟨a, d, fp, e1, e2, e3, rfl⟩ := cell _ i j l x hl hx
      rw [Nat.zero_add, List.getElem?_append_left (getElem?_lt e1), e1]; simp [List.getD_eq_getElem?_getD, e1]
    · intro i l hl j x hx
      obtain ⟨a, d, fp, e1, e2, e3, rfl⟩ := cell _ i j l x hl hx
      have := (ih _ a d fp e1 e2 e3).1
      simpa [List.getD_eq_getElem?_getD, e1] using this
    · intro i l hl; obtain ⟨m, hm, rfl⟩ := look _ i l hl; simpa using h3 m (List.mem_of_getElem? hm)
    · intro i l hl j x hx
      obtain ⟨a, d, fp, e1, e2, e3, rfl⟩ := cell _ i j l x hl hx
      rw [Nat.zero_add, List.getElem?_append_left (getElem?_lt e1), e1]; simp [List.getD_eq_getElem?_getD, e1]
    · intro i l hl j x hx
      obtain ⟨a, d, fp, e1, e2, e3, rfl⟩ := cell _ i j l x hl hx
      have := (ih _ a d fp e1 e2 e3).2 base fun b h => hb b (List.mem_cons_of_mem _ (List.mem_flatten.2 ⟨fp, List.mem_of_getElem? e3, h⟩))
      simpa [List.getD_eq_getElem?_getD, e1] using this
theorem OwnL.snap {h : AH} : ∀ {as : List AV} {ds : List CD} {fp : List Nat}, OwnL h as ds fp → SnapL h as (ds.map (CD.av true))
  | [], [], _, _ => trivial
  | a :: as, d :: ds, fp, ⟨f1, f2, e, o1, o2⟩ => ⟨o1.view.1, OwnL.snap o2⟩
theorem OwnL.frz {h : AH} {base : Nat} : ∀ {as : List AV} {ds : List CD} {fp : List Nat}, OwnL h as ds fp → (∀ b ∈ fp, base ≤ b) → ∀ (i : Nat) (y : AV), (ds.map (CD.av false))[i]? = some y → ∃ x, as[i]? = some x ∧ Frz base h x y
  | [], [], _, _, _, i, y, hy => by simp at hy
  | a :: as, d :: ds, fp, ⟨f1, f2, e, o1, o2⟩, hb, i, y, hy => by
    subst e
    cases i with
    | zero => simp at hy; subst hy; exact ⟨a, rfl, o1.view.2 base fun b h => hb b (by simp [h])⟩
    | succ i => exact OwnL.frz o2 (fun b h => hb b (by simp [h])) i y (by simpa using hy)
inductive RD where | c (d : CD) | a (cs : List CD)
def RD.av (β : Bool) : RD → AV | .c d => d.av β | .a cs => .agg (cs.map (CD.av β))
def OwnR (h : AH) (v : AV) : RD → List Nat → Prop
  | .c d, fp => Own h v d fp
  | .a cs, fp => ∃ as, v = .agg as ∧ OwnL h as cs fp
def OwnRs (h : AH) : List AV → List RD → List Nat → Prop
  | [], [], fp => fp = []
  | v :: vs, r :: rs, fp => ∃ f1 f2, fp = f1 ++ f2 ∧ OwnR h v r f1 ∧ OwnRs h vs rs f2
  | _, _, _ => False
def resOf : List AV → AV | [v] => v | vs => .tup vs
theorem OwnR.frame {h h' : AH} {v : AV} {r : RD} {fp : List Nat} (o : OwnR h v r fp) (hh : ∀ b ∈ fp, h'[b]? = h[b]?) : OwnR h' v r fp := by
  cases r with
  | c d => exact Own.frame o hh
  | a cs => obtain ⟨as, e, o⟩ := o; exact ⟨as, e, o.frame hh⟩
theorem OwnRs.frame {h h' : AH} : ∀ {vs : List AV} {rs : List RD} {fp : List Nat}, OwnRs h vs rs fp → (∀ b ∈ fp, h'[b]? = h[b]?) → OwnRs h' vs rs fp
  | [], [], _, o, _ => o
  | a :: as, d :: ds, fp, ⟨f1, f2, e, o1, o2⟩, hh => by
    subst e
    exact ⟨f1, f2, rfl, o1.frame fun b hb => hh b (by simp [hb]), OwnRs.frame o2 fun b hb => hh b (by simp [hb])⟩
theorem OwnR.lt {h : AH} {v : AV} {r : RD} {fp : List Nat} (o : OwnR h v r fp) : ∀ b ∈ fp, b < h.length := by
  cases r with
  | c d => exact Own.lt o
  | a cs => obtain ⟨as, e, o⟩ := o; exact o.lt
theorem OwnRs.lt {h : AH} : ∀ {vs : List AV} {rs : List RD} {fp : List Nat}, OwnRs h vs rs fp → ∀ b ∈ fp, b < h.length
  | [], [], _, o => by cases o; intro b hb; simp at hb
  | a :: as, d :: ds, fp, ⟨f1, f2, e, o1, o2⟩ => by
    subst e
    intro b hb
    rcases List.mem_append.1 hb with hb | hb
    · exact o1.lt b hb
    · exact OwnRs.lt o2 b hb
theorem OwnR.nb {h : AH} {base : Nat} {v : AV} {r : RD} {fp : List Nat} (o : OwnR h v r fp) (hb : ∀ b ∈ fp, base ≤ b) : NB base v := by
  cases r with
  | c d => exact Own.nb o hb
  | a cs => obtain ⟨as, rfl, o⟩ := o; exact .agg _ (o.nb hb)
theorem OwnRs.nb {h : AH} {base : Nat} : ∀ {vs : List AV} {rs : List RD} {fp : List Nat}, OwnRs h vs rs fp → (∀ b ∈ fp, base ≤ b) → ∀ x ∈ vs, NB base x
  | [], [], _, _, _ => fun x hx => by simp at hx
  | a :: as, d :: ds, fp, ⟨f1, f2, e, o1, o2⟩, hb => by
    subst e
    intro x hx
    rcases List.mem_cons.1 hx with rfl | hx
    · exact o1.nb fun b h => hb b (by simp [h])
    · exact OwnRs.nb o2 (fun b h => hb b (by simp [h])) x hx
theorem resOf_nb {base : Nat} {vs : List AV} (h : ∀ x ∈ vs, NB base x) : NB base (resOf vs) := by
  unfold resOf
  split
  · exact h _ (by simp)
  · exact .tup _ h
theorem OwnL.nbh {h : AH} {base : Nat} : ∀ {as : List AV} {ds : List CD} {fp : List Nat}, OwnL h as ds fp → (∀ b ∈ fp, base ≤ b) → ∀ b ∈ fp, ∀ g cs, h[b]? = some (some (g, cs)) → ∀ x ∈ cs, NB base x
  | [], [], _, o, _ => by cases o; intro b hb; simp at hb
  | a :: as, d :: ds, fp, ⟨f1, f2, e, o1, o2⟩, hh => by
    subst e
    intro b hb
    rcases List.mem_append.1 hb with hb | hb
    · exact o1.nbh (fun b h => hh b (by simp [h])) b hb
    · exact OwnL.nbh o2 (fun b h => hh b (by simp [h])) b hb
theorem OwnRs.nbh {h : AH} {base : Nat} : ∀ {vs : List AV} {rs : List RD} {fp : List Nat}, OwnRs h vs rs fp → (∀ b ∈ fp, base ≤ b) → ∀ b ∈ fp, ∀ g cs, h[b]? = some (some (g, cs)) → ∀ x ∈ cs, NB base x
  | [], [], _, o, _ => by cases o; intro b hb; simp at hb
  | a :: as, d :: ds, fp, ⟨f1, f2, e, o1, o2⟩, hh => by
    subst e
    intro b hb
    rcases List.mem_append.1 hb with hb | hb
    · cases d with
      | c d => exact Own.nbh o1 (fun b h => hh b (by simp [h])) b hb
      | a cs => obtain ⟨as', _, o1⟩ := o1; exact OwnL.nbh o1 (fun b h => hh b (by simp [h])) b hb
    · exact OwnRs.nbh o2 (fun b h => hh b (by simp [h])) b hb
theorem OwnR.frz {h : AH} {base : Nat} {v : AV} {r : RD} {fp : List Nat} (o : OwnR h v r fp) (hb : ∀ b ∈ fp, base ≤ b) : Frz base h v (r.av false) := by
  cases r with
  | c d => exact (Own.view o).2 base hb
  | a cs =>
    obtain ⟨as, rfl, o⟩ := o
    refine .agg as _ (by simp [o.len]) (fun i => as.getD i .any) (fun i y hy => ?_) (fun i y hy => ?_)
    · obtain ⟨x, hx, _⟩ := o.frz hb i y hy; simp [List.getD_eq_getElem?_getD, hx]
    · obtain ⟨x, hx, hf⟩ := o.frz hb i y hy; simpa [List.getD_eq_getElem?_getD, hx] using hf
theorem OwnRs.frz {h : AH} {base : Nat} : ∀ {vs : List AV} {rs : List RD} {fp : List Nat}, OwnRs h vs rs fp → (∀ b ∈ fp, base ≤ b) → vs.length = rs.length ∧ ∀ (i : Nat) (y : AV), (rs.map (RD.av false))[i]? = some y → ∃ x, vs[i]? = some x ∧ Frz base h x y
  | [], [], _, _, _ => ⟨rfl, fun i y hy => by simp at hy⟩
  | a :: as, d :: ds, fp, ⟨f1, f2, e, o1, o2⟩, hb => by
    subst e
    obtain ⟨h1, h2⟩ := OwnRs.frz o2 (fun b h => hb b (by simp [h]))
    refine ⟨by simp [h1], fun i y hy => ?_⟩
    cases i with
    | zero => simp at hy; subst hy; exact ⟨a, rfl, o1.frz fun b h => hb b (by simp [h])⟩
    | succ i => exact h2 i y (by simpa using hy)
theorem OwnRs.frzR {h : AH} {base : Nat} {vs : List AV} {rs : List RD} {fp : List Nat} (o : OwnRs h vs rs fp) (hb : ∀ b ∈ fp, base ≤ b) : Frz base h (resOf vs) (resOf (rs.map (RD.av false))) := by
  obtain ⟨h1, h2⟩ := o.frz hb
  match vs, rs, h1 with
  | [v], [r], _ => obtain ⟨x, e, hf⟩ := h2 0 _ rfl; simp at e; subst e; exact hf
  | [], [], _ => exact .tup _ _ rfl (fun _ => .any) (fun i y hy => by simp at hy) (fun i y hy => by simp at hy)
  | v :: v' :: vs, r :: r' :: rs, h1 =>
    refine .tup _ _ (by simpa using h1) (fun i => (v :: v' :: vs).getD i .any) (fun i y hy => ?_) (fun i y hy => ?_)
    · obtain ⟨x, hx, _⟩ := h2 i y hy; simp only [List.getD_eq_getElem?_getD, hx]; rfl
    · obtain ⟨x, hx, hf⟩ := h2 i y hy; simp only [List.getD_eq_getElem?_getD, hx]; exact hf
def Fresh (h : AH) (rs : List RD) (v : AV) (h' : AH) : Prop :=
  ∃ vs new fp, v = resOf vs ∧ h' = h ++ new ∧ OwnRs h' vs rs fp ∧ fp.Nodup ∧ (∀ b ∈ fp, h.length ≤ b) ∧ ∀ b, h.length ≤ b → b < h'.length → b ∉ fp → h'[b]? = some none
theorem Fresh.nbh {h : AH} {rs : List RD} {vs : List AV} {new : AH} {fp : List Nat} (o : OwnRs (h ++ new) vs rs fp) (hb : ∀ b ∈ fp, h.length ≤ b) (hd : ∀ b, h.length ≤ b → b < (h ++ new).length → b ∉ fp → (h ++ new)[b]? = some none) :
    NBH h.length new := by
  intro b g cs hcs x hx
  have hlt := getElem?_lt hcs
  have e : (h ++ new)[h.length + b]? = some (some (g, cs)) := by rw [List.getElem?_append_right (by omega)]; simpa using hcs
  by_cases hm : h.length + b ∈ fp
  · exact o.nbh hb _ hm g cs e x hx
  · have := hd (h.length + b) (by omega) (by simp; omega) hm
    rw [e] at this
    cases this
section
variable {P : Program} {Θ : Tab} {Γ : Glob}
theorem T.prune {f : FuncId} {args : List AV} {h : AH} {Q K : AV → AH → Prop} (t : T P Γ f args h Q) (hq : ∀ v h', Q v h' → ∃ h'', h''.length = h'.length ∧ (∀ (b : Nat) (x : Nat × List AV), h''[b]? = some (some x) → h'[b]? = some (some x)) ∧ K v h'') : T P Γ f args h K := by
  refine ⟨t.1, fun ρ w cargs m gk ra => (t.2 ρ w cargs m gk ra).mono ?_⟩
  rintro e w' ⟨v, cv, ρ', h', rfl, r1, r2, ev, q⟩
  obtain ⟨h'', hl, hs, hk⟩ := hq _ _ q
  refine ⟨v, cv, ρ', h'', rfl, r1, ⟨fun b g cs hb => r2.hp b g cs (hs b _ hb), r2.lp, r2.len, r2.nod, fun b g cs b' g' cs' c o n o' n' e1 e2 => r2.hh b g cs b' g' cs' c o n o' n' (hs _ _ e1) (hs _ _ e2), fun b g cs c o n i e1 => r2.hl b g cs c o n i (hs _ _ e1), r2.im, r2.iml,
    fun β c arr b g cs o n e1 e2 => r2.imh β c arr b g cs o n e1 (hs _ _ e2), fun b g c o n e1 => ?_⟩, ⟨ev.le, ev.ext, ev.sz, ev.fr, fun b g cs c o n e1 => ev.own b g cs c o n (hs _ _ e1), ev.ownl, ev.imo, by rw [hl]; exact ev.len, ev.os, ev.out⟩, hk⟩
  obtain ⟨d1, d2, d3⟩ := r2.dom b g c o n e1
  exact ⟨d1, by rw [hl]; exact d2, fun g' cs e2 => d3 g' cs (hs _ _ e2)⟩
theorem T.fresh {f : FuncId} {args : List AV} {h : AH} {Q : AV → AH → Prop} {rs : List RD} (t : T P Γ f args h Q)
    (hq : ∀ v h', Q v h' → ∃ vs new fp, v = resOf vs ∧ h' = h ++ new ∧ OwnRs h' vs rs fp ∧ fp.Nodup ∧ ∀ b ∈ fp, h.length ≤ b) : T P Γ f args h (Fresh h rs) := by
  refine t.prune fun v h' q => ?_
  obtain ⟨vs, new, fp, rfl, rfl, o, nd, hb⟩ := hq v h' q
  let new' : AH := new.mapIdx fun i x => if h.length + i ∈ fp then x else none
  have hget : ∀ b, (h ++ new')[b]? = if h.length ≤ b ∧ b < (h ++ new).length ∧ b ∉ fp then some none else (h ++ new)[b]? := by
    intro b
    rcases Nat.lt_or_ge b h.length with hlt | hge
    · rw [List.getElem?_append_left hlt, List.getElem?_append_left hlt, if_neg (by omega)]
    · rw [List.getElem?_append_right hge, List.getElem?_append_right hge]
      simp only [new', List.getElem?_mapIdx]
      rw [show h.length + (b - h.length) = b by omega]
      rcases Nat.lt_or_ge (b - h.length) new.length with hl | hl
      · rw [List.getElem?_eq_getElem hl]
        by_cases hm : b ∈ fp
        · simp [hm]
        · simp only [hm, if_false, Option.map_some, not_false_eq_true, and_true]
          rw [if_pos ⟨hge, by simp; omega⟩]
      · rw [List.getElem?_eq_none hl]
        simp only [Option.map_none]
        rw [if_neg (by simp; omega)]
  refine ⟨h ++ new', by simp [new'], fun b x e => ?_, vs, new', fp, rfl, rfl, o.frame fun b hm => ?_, nd, hb, fun b h1 h2 h3 => ?_⟩
  · rw [hget] at e
    split at e
    · cases e
    · exact e
  · rw [hget, if_neg (by simp [hm])]
  · rw [hget, if_pos ⟨h1, by simp [new'] at h2; simpa using h2, h3⟩]
theorem T.frozen {f : FuncId} {args : List AV} {h : AH} {rs : List RD} (t : T P Γ f args h (Fresh h rs)) : T P Γ f args h fun v h' => v = resOf (rs.map (RD.av false)) ∧ h' = h := by
  refine t.freeze ?_
  rintro v h' ⟨vs, new, fp, rfl, rfl, o, nd, hb, hd⟩
  exact ⟨h, new, _, rfl, rfl, fun b g cs hb => .inl hb, o.frzR hb, rfl, rfl⟩
theorem TCall.own {f : FuncId} {args args' : List AV} {s : St} {rs : List RD} {K : AV → St → Prop} (ho : args.all out1 = true) (hs : SnapL s.heap args args')
    (t : ∀ h, T P Γ f args' h (Fresh h rs)) (hk : ∀ v h', Fresh s.heap rs v h' → K v { s with heap := h' }) : TCall P Γ f args s K := by
  refine TCall.snap ho hs (t _) ?_
  rintro v h' ⟨vs, new, fp, rfl, rfl, o, nd, hb, hd⟩
  have hlr : (List.replicate s.heap.length (none : Option (Nat × List AV))).length = s.heap.length := by simp
  have same : ∀ b, s.heap.length ≤ b → (s.heap ++ new)[b]? = (List.replicate s.heap.length none ++ new)[b]? := fun b hb => by
    rw [List.getElem?_append_right hb, List.getElem?_append_right (by rw [hlr]; exact hb), hlr]
  rw [hlr] at hb hd
  have o' : OwnRs (s.heap ++ new) vs rs fp := o.frame fun b hm => same b (hb b hm)
  have hd' : ∀ b, s.heap.length ≤ b → b < (s.heap ++ new).length → b ∉ fp → (s.heap ++ new)[b]? = some none := fun b h1 h2 h3 => by
    rw [same b h1]; exact hd b h1 (by simp at h2 ⊢; omega) h3
  exact ⟨new, rfl, resOf_nb (o.nb hb), Fresh.nbh o' hb hd', hk _ _ ⟨vs, new, fp, rfl, rfl, o', nd, hb, hd'⟩⟩
end
end Go.AM
