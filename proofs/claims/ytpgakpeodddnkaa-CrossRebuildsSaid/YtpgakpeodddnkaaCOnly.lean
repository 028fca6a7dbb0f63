import Derived.Test.YtpgakpeodddnkaaCXor
import Derived.Test.YtpgakpeodddnkaaCOpen
import Derived.Test.YtpgakpeodddnkaaCx11
namespace Go.Proofs.Ytpgakpeodddnkaa.C
open Go.RowKit Go.Proofs.YtpgakpeodddnkaaW.PrintWords Go.Proofs.YtpgakpeodddnkaaW.PrintLast Go.Proofs.YtpgakpeodddnkaaW.PrintMore

theorem w64 (i : Nat) (h : i < 100) : wrap64 ((i : Int) + 1) = ((i + 1 : Nat) : Int) := by
  unfold wrap64
  omega
def laidM (M : List (List Nat)) : List Nat := M.flatMap (· ++ [0])
theorem laid_ev (vs : List Int) (M : List (List Nat)) (h : M.length = 4) : laidK (M.map (List.map (ev vs))) 4 = (laidM M).map (ev vs) := by
  unfold laidK laidM
  rw [List.take_of_length_le (by rw [List.length_map, h]; exact Nat.le_refl _)]
  rw [List.flatMap_map, List.map_flatMap]
  simp [ev_zero]
theorem out_grid (gs : List Int) : isGrid (outRows gs 4) = true := by
  obtain ⟨h4, hr⟩ := out_len gs
  simp only [isGrid, h4, BEq.rfl, Bool.true_and, List.all_eq_true]
  intro r hr'
  simp [hr r hr']

section
variable (g x : List (List Int)) (l1 l2 p q : List Int) (a b f : Int)
theorem only_l0 (k i : Nat) (hi : i < 4) : supercargolaw_CrossOnly.l0 (k + 1) g l1 l2 a b x p q f i = supercargolaw_CrossOnly.l1 k g l1 l2 a b x p q f i 0 := by
  rw [supercargolaw_CrossOnly.l0, if_pos (by omega)]
theorem only_l1 (k i j : Nat) (hi : i < 4) (hj : j < 4) (hg : isGrid g = true) (hx : isGrid x = true) (he : ∀ i j : Nat, i < 4 → j < 4 → (j : Int) ≠ a → (j : Int) ≠ b → (x.getD i []).getD j 0 = (g.getD i []).getD j 0) :
    supercargolaw_CrossOnly.l1 (k + 1) g l1 l2 a b x p q f i j = supercargolaw_CrossOnly.l1 k g l1 l2 a b x p q f i ((j + 1 : Nat) : Int) := by
  rw [supercargolaw_CrossOnly.l1, if_pos (by omega), w64 j (by omega)]
  have h1 := (grid_all hg).1
  have h2 := (grid_all hx).1
  have r1 : (rd_L3 g i).length = 4 := grid_row hg i hi
  have r2 : (rd_L3 x i).length = 4 := grid_row hx i hi
  by_cases ha : (j : Int) = a
  · rw [if_pos ha]
  · by_cases hb : (j : Int) = b
    · rw [if_neg ha, if_pos hb]
    · have hv : rd (rd_L3 x i) j = rd (rd_L3 g i) j := he i j hi hj ha hb
      rw [if_neg ha, if_neg hb, if_pos (by omega), if_pos (by omega), if_pos (by omega), if_pos (by omega), if_pos (by omega), if_pos (by omega), if_pos hv]
theorem only_end (k i : Nat) (hi : i < 4) : supercargolaw_CrossOnly.l1 (k + 1) g l1 l2 a b x p q f i (4 : Nat) = supercargolaw_CrossOnly.l0 k g l1 l2 a b x p q f ((i + 1 : Nat) : Int) := by
  rw [supercargolaw_CrossOnly.l1, if_neg (by omega), w64 i (by omega)]
theorem only_row (k i : Nat) (hi : i < 4) (hg : isGrid g = true) (hx : isGrid x = true) (he : ∀ i j : Nat, i < 4 → j < 4 → (j : Int) ≠ a → (j : Int) ≠ b → (x.getD i []).getD j 0 = (g.getD i []).getD j 0) :
    supercargolaw_CrossOnly.l0 (k + 6) g l1 l2 a b x p q f i = supercargolaw_CrossOnly.l0 k g l1 l2 a b x p q f ((i + 1 : Nat) : Int) := by
  rw [only_l0 g x l1 l2 p q a b f (k + 5) i hi]
  have h0 := only_l1 g x l1 l2 p q a b f (k + 4) i 0 hi (by omega) hg hx he
  have h1 := only_l1 g x l1 l2 p q a b f (k + 3) i 1 hi (by omega) hg hx he
  have h2 := only_l1 g x l1 l2 p q a b f (k + 2) i 2 hi (by omega) hg hx he
  have h3 := only_l1 g x l1 l2 p q a b f (k + 1) i 3 hi (by omega) hg hx he
  exact h0.trans (h1.trans (h2.trans (h3.trans (only_end g x l1 l2 p q a b f k i hi))))
theorem only_all (k : Nat) (hg : isGrid g = true) (hx : isGrid x = true) (he : ∀ i j : Nat, i < 4 → j < 4 → (j : Int) ≠ a → (j : Int) ≠ b → (x.getD i []).getD j 0 = (g.getD i []).getD j 0) :
    supercargolaw_CrossOnly.l0 (k + 24) g l1 l2 a b x p q f 0 = supercargolaw_CrossOnly.l0 k g l1 l2 a b x p q f 4 :=
  (only_row g x l1 l2 p q a b f (k + 18) 0 (by omega) hg hx he).trans ((only_row g x l1 l2 p q a b f (k + 12) 1 (by omega) hg hx he).trans ((only_row g x l1 l2 p q a b f (k + 6) 2 (by omega) hg hx he).trans (only_row g x l1 l2 p q a b f k 3 (by omega) hg hx he)))
end
def onlyX (a b : Nat) : List (List Nat) := outM (endM (maskG 0) (mask4 16) (mask4 20) a b) 4
theorem only_masks1 : ∀ a < 4, ∀ b < 4, a ≠ b → rowsM (laidM (onlyX a b)) 4 = mask4 16 := by decide +kernel
theorem only_masks2 : ∀ a < 4, ∀ b < 4, a ≠ b → crossM (linedM (laidM (onlyX a b)) 4) 4 = mask4 20 := by decide +kernel
theorem only_masks3 : ∀ a < 4, ∀ b < 4, a ≠ b → (onlyX a b).length = 4 := by decide +kernel
theorem only_masks5 : ∀ a < 4, ∀ b < 4, a ≠ b → ((List.range 4).all fun i => (List.range 4).all fun j => j == a || j == b || ((onlyX a b).getD i []).getD j 0 == 2 ^ (4 * i + j)) = true := by decide +kernel
theorem only_masks4 (a : Nat) (ha : a < 4) (b : Nat) (hb : b < 4) (hab : a ≠ b) (i : Nat) (hi : i < 4) (j : Nat) (hj : j < 4) (h1 : j ≠ a) (h2 : j ≠ b) : ((onlyX a b).getD i []).getD j 0 = 2 ^ (4 * i + j) := by
  have h := only_masks5 a ha b hb hab
  rw [List.all_eq_true] at h
  have h := h i (List.mem_range.2 hi)
  rw [List.all_eq_true] at h
  have h := h j (List.mem_range.2 hj)
  rw [Bool.or_eq_true, Bool.or_eq_true, beq_iff_eq, beq_iff_eq, beq_iff_eq] at h
  rcases h with (h | h) | h
  · exact absurd h h1
  · exact absurd h h2
  · exact h
theorem only_end' (l0 : List (List Int)) (w0 : ∀ r ∈ l0, Wf .u8 r) (l1 : List Int) (w1 : Wf .u8 l1) (l2 : List Int) (w2 : Wf .u8 l2) (hg : isGrid l0 = true) (h1 : l1.length = 4) (h2 : l2.length = 4) (a b : Nat) (ha : a < 4) (hb : b < 4) (hab : a ≠ b) :
    rowsTo (laidK (outRows (endG l0 l1 l2 a b) 4) 4) 4 = l1 ∧ crossTo (lined (laidK (outRows (endG l0 l1 l2 a b) 4) 4) 4) 4 = l2 ∧ ∀ i j : Nat, i < 4 → j < 4 → j ≠ a → j ≠ b → ((outRows (endG l0 l1 l2 a b) 4).getD i []).getD j 0 = (l0.getD i []).getD j 0 := by
  obtain ⟨x0, x1, x2, x3, x4, x5, x6, x7, x8, x9, x10, x11, x12, x13, x14, x15, rfl⟩ := grid_form hg
  obtain ⟨r0, r1, r2, r3, rfl⟩ := four_form h1
  obtain ⟨c0, c1, c2, c3, rfl⟩ := four_form h2
  obtain ⟨vs, hvs⟩ : ∃ vs : List Int, vs = [x0, x1, x2, x3, x4, x5, x6, x7, x8, x9, x10, x11, x12, x13, x14, x15, r0, r1, r2, r3, c0, c1, c2, c3] := ⟨_, rfl⟩
  have hw : ∀ x ∈ vs, (Lit.int .u8 x).wf = true := by
    rw [hvs]
    simp only [Wf, List.mem_cons, List.not_mem_nil, or_false, forall_eq_or_imp, forall_eq] at w0 w1 w2 ⊢
    simp only [w0, w1, w2, and_self]
  have e0 := maskG_ev hw 0 x0 x1 x2 x3 x4 x5 x6 x7 x8 x9 x10 x11 x12 x13 x14 x15 (by simp [hvs]) (by simp [hvs]) (by simp [hvs]) (by simp [hvs])
  have e1 := mask4_ev hw 16 r0 r1 r2 r3 (by simp [hvs])
  have e2 := mask4_ev hw 20 c0 c1 c2 c3 (by simp [hvs])
  have m1 := only_masks1 a ha b hb hab
  have m2 := only_masks2 a ha b hb hab
  have m3 := only_masks3 a ha b hb hab
  have m4 := only_masks4 a ha b hb hab
  have hx : outRows (endG [[x0, x1, x2, x3], [x4, x5, x6, x7], [x8, x9, x10, x11], [x12, x13, x14, x15]] [r0, r1, r2, r3] [c0, c1, c2, c3] a b) 4 = (onlyX a b).map (List.map (ev vs)) := by
    rw [e1, e2, end_ev vs _ _ _ _ _ _ e0, out_ev]
    rfl
  rw [hx, laid_ev vs _ m3, rows_ev, lined_ev, cross_ev, m1, m2]
  refine ⟨e1.symm, e2.symm, fun i j hi hj h1 h2 => ?_⟩
  have h := m4 i hi j hj h1 h2
  have hL : (((onlyX a b).map (List.map (ev vs))).getD i []).getD j 0 = ev vs (((onlyX a b).getD i []).getD j 0) := by
    rw [← getD_ev]
    congr 1
    rw [List.getD_eq_getElem?_getD, List.getD_eq_getElem?_getD, List.getElem?_map]
    cases (onlyX a b)[i]? <;> rfl
  rw [hL, h, ev_pow vs _ (by rw [hvs]; simp; omega) hw, hvs]
  rcases i with _ | _ | _ | _ | i
  · rcases j with _ | _ | _ | _ | j <;> first | rfl | omega
  · rcases j with _ | _ | _ | _ | j <;> first | rfl | omega
  · rcases j with _ | _ | _ | _ | j <;> first | rfl | omega
  · rcases j with _ | _ | _ | _ | j <;> first | rfl | omega
  · omega

theorem supercargolaw_CrossOnly.pure (l0 : List (List Int)) (w0 : ∀ r ∈ l0, Wf .u8 r) (l1 : List Int) (w1 : Wf .u8 l1) (l2 : List Int) (w2 : Wf .u8 l2) (a3 : Int) (_w3 : (Lit.int .i64 a3).wf = true) (a4 : Int) (_w4 : (Lit.int .i64 a4).wf = true) :
    ∃ k, supercargolaw_CrossOnly.f k l0 l1 l2 a3 a4 = some true := by
  refine ⟨60, ?_⟩
  have hb := begun
  unfold supercargolaw_CrossOnly.f cross_Rebuild.f
  by_cases hg : isGrid l0 = false ∨ l1.length ≠ 4 ∨ l2.length ≠ 4
  · simp [hg, hb]
  · by_cases hr : a3 < 0 ∨ 4 ≤ a3 ∨ a4 < 0 ∨ 4 ≤ a4
    · rw [if_neg hg, if_pos hr]
      simp [hb]
    · rw [if_neg hg, if_neg hr]
      by_cases hab : a3 = a4
      · rw [if_pos hab]
        simp [hb]
      · rw [if_neg hab]
        have hg' : isGrid l0 = true ∧ l1.length = 4 ∧ l2.length = 4 := by simpa using hg
        obtain ⟨e1, e2, e3⟩ := only_end' l0 w0 l1 w1 l2 w2 hg'.1 hg'.2.1 hg'.2.2 a3.toNat a4.toNat (by omega) (by omega) (by omega)
        have ho := out_grid (endG l0 l1 l2 a3.toNat a4.toNat)
        have hs1 := same_bytes 25 l1 hg'.2.1
        have hs2 := same_bytes 25 l2 hg'.2.2
        simp only [Option.bind_some, hb, if_true, cross_Encode.f, ho, e1, e2]
        rw [only_all l0 _ l1 l2 l1 l2 a3 a4 0 36 hg'.1 ho (fun i j hi hj h1 h2 => e3 i j hi hj (by omega) (by omega))]
        rw [supercargolaw_CrossOnly.l0, if_neg (by omega), if_pos rfl]
        simp only [hs1, hs2, Option.bind_some, if_true]
end Go.Proofs.Ytpgakpeodddnkaa.C
