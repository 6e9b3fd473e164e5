import Derived.Test.YtleddolmolkpfaaGreatAmCut
import Derived.Test.YtleddolmolkpfaaGreatAmApp2
import Derived.Test.YtleddolmolkpfaaGreatAmMore1
set_option linter.unusedVariables false
set_option linter.unusedSimpArgs false
namespace Go.AM
section
variable {P : Program} {Θ : Tab} {Γ : Glob}
theorem bsl0_step {K : St → Prop} {dst : Option Nat} {s : St} {e : List AV} {l : List (List AV)} {h : AH} {sz : Nat} {z : List AV}
    (hk : ∀ w H f, HExt h H → Own H w (.sl sz []) f → f.Nodup → (∀ c ∈ f, h.length ≤ c) → K ((⟨e, l, H⟩ : St).put dst w)) :
    opK P Γ K dst s (some true) (bslK ⟨e, l, h⟩ sz 0 (some (List.replicate 0 z).flatten)) := by
  simp only [rp_0, bslK_u, List.all_nil, if_true, k_v]
  exact hk _ _ _ (HExt.app _ _) (bsl0_own _ _) (by simp) (by simp)
theorem appv_step {K : St → Prop} {dst : Option Nat} {s : St} {e : List AV} {l : List (List AV)} {α : Type} {H : AH} {v : AV} {β : Bool} {sz bytes : Nat} {xs : List (List CD)} {ys : List α} {c : α → List AV} {cd : α → List CD} {fp : List Nat}
    (o : Own H v (.sl sz xs) fp) (nd : fp.Nodup) (h0 : 0 < sz) (hd : ∀ x, (cd x).length = sz ∧ (cd x).all CD.flat = true) (hcd : ∀ x, c x = (cd x).map (CD.av false)) (hb : (xs.length + ys.length) * (sz + bytes) ≤ maxMade)
    (hk : ∀ w H' f, Own H' w (.sl sz (xs ++ ys.map cd)) f → f.Nodup → (∀ c, c ∉ fp → c < H.length → H'[c]? = H[c]?) → H.length ≤ H'.length → (∀ c ∈ f, c ∈ fp ∨ H.length ≤ c) → K ((⟨e, l, H'⟩ : St).put dst w)) :
    opK P Γ K dst s (some true) (appK ⟨e, l, H⟩ sz bytes v (srcCells ⟨e, l, H⟩ sz false (.vs β sz false (ys.map c))) (lenOf (.vs β sz false (ys.map c))) (lenOf v)) := by
  obtain ⟨w, H', f, ea, ow, nw, hf, hl, hm⟩ := app_vs (bytes := bytes) o nd h0 (β := β) (l := ys) (c := c) hd hcd hb
  rw [ea, k_v]
  exact hk w H' f ow nw hf hl hm
end
end Go.AM
