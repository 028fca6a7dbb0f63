import Derived.Test.YtpgakpeodddnkaaCXor
import Derived.Test.YtpgakpeodddnkaaCOpen
import Derived.Test.YtpgakpeodddnkaaCx13
namespace Go.Proofs.Ytpgakpeodddnkaa.C
open Go.RowKit Go.Proofs.YtpgakpeodddnkaaW.PrintWords Go.Proofs.YtpgakpeodddnkaaW.PrintLast Go.Proofs.YtpgakpeodddnkaaW.PrintMore

theorem about_masks : ∀ a < 4, ∀ b < 4, a ≠ b → endM (maskG 0) (mask4 16) (mask4 20) a b = endM (maskG 0) (mask4 16) (mask4 20) b a := by decide +kernel
theorem about_end (l0 : List (List Int)) (w0 : ∀ r ∈ l0, Wf .u8 r) (l1 : List Int) (w1 : Wf .u8 l1) (l2 : List Int) (w2 : Wf .u8 l2) (hg : isGrid l0 = true) (h1 : l1.length = 4) (h2 : l2.length = 4) (a b : Nat) (ha : a < 4) (hb : b < 4) (hab : a ≠ b) :
    endG l0 l1 l2 a b = endG l0 l1 l2 b a := by
  obtain ⟨x0, x1, x2, x3, x4, x5, x6, x7, x8, x9, x10, x11, x12, x13, x14, x15, rfl⟩ := grid_form hg
  obtain ⟨r0, r1, r2, r3, rfl⟩ := four_form h1
  obtain ⟨c0, c1, c2, c3, rfl⟩ := four_form h2
  obtain ⟨vs, hvs⟩ : ∃ vs : List Int, vs = [x0, x1, x2, x3, x4, x5, x6, x7, x8, x9, x10, x11, x12, x13, x14, x15, r0, r1, r2, r3, c0, c1, c2, c3] := ⟨_, rfl⟩
  have hw : ∀ x ∈ vs, (Lit.int .u8 x).wf = true := by
    rw [hvs]
    simp only [Wf, List.mem_cons, List.not_mem_nil, or_false, forall_eq_or_imp, forall_eq] at w0 w1 w2 ⊢
    simp only [w0, w1, w2, and_self]
  have e0 := maskG_ev hw 0 x0 x1 x2 x3 x4 x5 x6 x7 x8 x9 x10 x11 x12 x13 x14 x15 (by simp [hvs]) (by simp [hvs]) (by simp [hvs]) (by simp [hvs])
  have e1 := mask4_ev hw 16 r0 r1 r2 r3 (by simp [hvs])
  have e2 := mask4_ev hw 20 c0 c1 c2 c3 (by simp [hvs])
  rw [e1, e2, end_ev vs _ _ _ _ _ _ e0, end_ev vs _ _ _ _ _ _ e0, about_masks a ha b hb hab]

theorem supercargolaw_CrossAbout.pure (l0 : List (List Int)) (w0 : ∀ r ∈ l0, Wf .u8 r) (l1 : List Int) (w1 : Wf .u8 l1) (l2 : List Int) (w2 : Wf .u8 l2) (a3 : Int) (_w3 : (Lit.int .i64 a3).wf = true) (a4 : Int) (_w4 : (Lit.int .i64 a4).wf = true) :
    ∃ k, supercargolaw_CrossAbout.f k l0 l1 l2 a3 a4 = some true := by
  refine ⟨60, ?_⟩
  have hb := begun
  have hn := same_none 40
  unfold supercargolaw_CrossAbout.f cross_Rebuild.f
  by_cases hg : isGrid l0 = false ∨ l1.length ≠ 4 ∨ l2.length ≠ 4
  · simp [hg, hb, hn]
  · by_cases hr : a3 < 0 ∨ 4 ≤ a3 ∨ a4 < 0 ∨ 4 ≤ a4
    · have hr' : a4 < 0 ∨ 4 ≤ a4 ∨ a3 < 0 ∨ 4 ≤ a3 := by omega
      rw [if_neg hg, if_pos hr, if_neg hg, if_pos hr']
      simp [hb, hn]
    · have hr' : ¬ (a4 < 0 ∨ 4 ≤ a4 ∨ a3 < 0 ∨ 4 ≤ a3) := by omega
      rw [if_neg hg, if_neg hr, if_neg hg, if_neg hr']
      by_cases hab : a3 = a4
      · rw [if_pos hab, if_pos hab.symm]
        simp [hb, hn]
      · rw [if_neg hab, if_neg (Ne.symm hab)]
        have hg' : isGrid l0 = true ∧ l1.length = 4 ∧ l2.length = 4 := by simpa using hg
        have he := about_end l0 w0 l1 w1 l2 w2 hg'.1 hg'.2.1 hg'.2.2 a3.toNat a4.toNat (by omega) (by omega) (by omega)
        rw [he]
        have ho := out_len (endG l0 l1 l2 a4.toNat a3.toNat)
        have hs := same_matrix 40 _ ho.1 ho.2
        simp [hb, hs]
end Go.Proofs.Ytpgakpeodddnkaa.C
