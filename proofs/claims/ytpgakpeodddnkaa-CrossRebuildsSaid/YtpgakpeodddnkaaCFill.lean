import Derived.Test.YtpgakpeodddnkaaCLost
import Derived.Deep.RegionHeld3
namespace Go.Proofs.Ytpgakpeodddnkaa.C
open Go.RowKit Go.Proofs.YtpgakpeodddnkaaW.PrintWords Go.Proofs.YtpgakpeodddnkaaW.PrintLast Go.Proofs.YtpgakpeodddnkaaW.PrintMore
open Go.ChangeMaps (setBlock)

def np (p : S62) : Nat × Nat := (p.f0.toNat, p.f1.toNat)
def gi (p : S62) : Nat := p.f0.toNat * 5 + p.f1.toNat
def hits (L : List (Nat × Nat)) (l : List S62) : List S62 := l.filter fun p => decide (np p ∈ L)
def fillL (L : List (Nat × Nat)) (l : List S62) : List (Nat × Nat) := match hits L l with
  | [p] => L.erase (np p)
  | _ => L
def fillV (gs : List Int) (l : List S62) (p : S62) (sum : Int) : Int := Go.bits .xor .u8 (sumOf (gs.set (gi p) 0) l) sum
def fillG (gs : List Int) (L : List (Nat × Nat)) (l : List S62) (sum : Int) : List Int := match hits L l with
  | [p] => (gs.set (gi p) 0).set (gi p) (fillV gs l p sum)
  | _ => gs
theorem hits_succ (L : List (Nat × Nat)) (l : List S62) (k : Nat) (h : k < l.length) : hits L (l.take (k + 1)) = hits L (l.take k) ++ if np (l.getD k z62) ∈ L then [l.getD k z62] else [] := by
  unfold hits
  rw [List.take_succ_eq_append_getElem h, List.filter_append]
  congr 1
  rw [List.getD_eq_getElem?_getD, List.getElem?_eq_getElem h]
  simp only [Option.getD_some, List.filter_cons, List.filter_nil]
  by_cases hm : np l[k] ∈ L <;> simp [hm]
theorem hits_sub (L : List (Nat × Nat)) (l : List S62) (k : Nat) (n : Nat) (h : n ≤ (hits L (l.take k)).length) : n ≤ (hits L l).length := by
  have : (hits L (l.take k)).Sublist (hits L l) := (List.take_sublist k l).filter _
  have := this.length_le
  omega
theorem fill_many {gs : List Int} {L : List (Nat × Nat)} {l : List S62} {sum : Int} (h : 2 ≤ (hits L l).length) : fillL L l = L ∧ fillG gs L l sum = gs := by
  unfold fillL fillG
  match hits L l, h with
  | _ :: _ :: _, _ => exact ⟨rfl, rfl⟩
def SolverAt (W : World) (S b m : Nat) : Prop := W.heap[S]? = some (.cells #[.pointer (some ⟨b, 0, none⟩), .map (some m)] 60 (0, 0))

theorem lost_below {W W' : World} {m : Nat} {L : List (Nat × Nat)} (h : LostAt W m L) (hb : Below W.heap.size W W') : LostAt W' m L := by
  obtain ⟨es, c, h0, h⟩ := h
  exact ⟨es, c, (hb.block m (Array.getElem?_eq_some_iff.1 h0).1).trans h0, h⟩
theorem lost_lt {W : World} {m : Nat} {L : List (Nat × Nat)} (h : LostAt W m L) : m < W.heap.size := by
  obtain ⟨es, c, h0, _⟩ := h
  exact (Array.getElem?_eq_some_iff.1 h0).1
theorem solver_below {W W' : World} {S b m : Nat} (h : SolverAt W S b m) (hb : Below W.heap.size W W') : SolverAt W' S b m := (hb.block S (Array.getElem?_eq_some_iff.1 h).1).trans h

def FillPost (B S b m : Nat) (gs : List Int) (L : List (Nat × Nat)) (w0 : World) (e : Ending) (w' : World) : Prop :=
  e = .returned (.tuple #[]) ∧ Below B w0 w' ∧ SolverAt w' S b m ∧ GridAt w' b gs ∧ LostAt w' m L

theorem k62_any {W W' : World} {x : S62} {cs : List Value} (h : k62.K W x cs) : k62.K W' x cs := by rw [k62_open h]; exact k62_mk W' x
theorem C62_move {W W' : World} {A : Option Addr} {n : Nat} {xs : List S62} (h : Kd.C k62 W A n xs) (hc : 0 < n → ∀ ad, A = some ad → W'.heap[ad.block]? = W.heap[ad.block]?) : Kd.C k62 W' A n xs := by
  refine ⟨h.1, h.2.1, fun hn => ?_⟩
  obtain ⟨ad, e, hp⟩ := h.2.2 hn
  refine ⟨ad, e, fun j p hj => ?_⟩
  obtain ⟨c, h1, h2, h3⟩ := hp j p hj
  refine ⟨c, h1, k62_any h2, fun i u hu => ?_⟩
  have := h3 i u hu
  unfold World.cell? at this ⊢
  have hb : (ad.add (j * k62.sz + i)).block = ad.block := by unfold Addr.add; split <;> rfl
  rw [hb] at this ⊢
  rw [hc hn ad e]
  exact this
theorem C62_apart {W : World} {A : Option Addr} {n : Nat} {xs : List S62} {b : Nat} {gs : List Int} (h : Kd.C k62 W A n xs) (hg : GridAt W b gs) (hn : 0 < n) (ad : Addr) (e : A = some ad) : ad.block ≠ b := by
  rintro rfl
  obtain ⟨ad2, e2, h0, _⟩ := at_T62 h 0 (by omega) (by omega)
  rw [e] at e2
  injection e2 with e2
  subst e2
  have hb : (ad.add ((0 : Int).toNat * 2)).block = ad.block := by unfold Addr.add; split <;> rfl
  have hq : W.cell? (ad.add ((0 : Int).toNat * 2)) = if (ad.add ((0 : Int).toNat * 2)).spot.isSome then none else ((gs.map (Value.int .u8)).toArray)[(ad.add ((0 : Int).toNat * 2)).off]? := by
    unfold World.cell?
    rw [hb, hg]
  rw [hq] at h0
  by_cases hsp : (ad.add ((0 : Int).toNat * 2)).spot.isSome = true
  · rw [if_pos hsp] at h0; cases h0
  · rw [if_neg hsp] at h0
    simp only [List.getElem?_toArray, List.getElem?_map] at h0
    obtain ⟨y, _, hy⟩ := Option.map_eq_some_iff.1 h0
    injection hy with hy
    cases hy
theorem lost_move {W W' : World} {m : Nat} {L : List (Nat × Nat)} (h : LostAt W m L) (hc : W'.heap[m]? = W.heap[m]?) : LostAt W' m L := by
  obtain ⟨es, c, h0, h⟩ := h
  exact ⟨es, c, hc.trans h0, h⟩
theorem lost_ne {W : World} {m b : Nat} {L : List (Nat × Nat)} {cs : Array Value} {t : TypeId} {f : Nat × Nat} (h : LostAt W m L) (hb : W.heap[b]? = some (.cells cs t f)) : m ≠ b := by
  rintro rfl
  obtain ⟨es, c, h0, _⟩ := h
  rw [h0] at hb
  cases hb

set_option maxHeartbeats 8000000 in
theorem fill_calls (B S b m : Nat) (gs : List Int) (L : List (Nat × Nat)) (A1 : Option Addr) (c1 : Nat) (l : List S62) (sum : Int) (w0 w : World) (hB : Below B w0 w) (hBb : B ≤ b) (hBm : B ≤ m) (hS : SolverAt w S b m)
    (hG : GridAt w b gs) (hlen : gs.length = 20) (hL : LostAt w m L) (hl : Kd.C k62 w A1 l.length l) (hin : ∀ p ∈ l, 0 ≤ p.f0 ∧ p.f0 < 4 ∧ 0 ≤ p.f1 ∧ p.f1 ≤ 4) :
    Calls Try.prog 31 #[.pointer (some ⟨S, 0, none⟩), .slice A1 l.length c1, .int .u8 sum] w (FillPost B S b m (fillG gs L l sum) (fillL L l) w0) := by
  have hm : l.length ≤ 9223372036854775807 := hl.2.1
  have hBw : B ≤ w.heap.size := by have := (Array.getElem?_eq_some_iff.1 hG).1; omega
  have HL := Aside0.mk hl
  have HB0 := Aside0.mk hB
  have HS := Aside0.mk hS
  have HGD := Aside0.mk hG
  have HLN := Aside0.mk hlen
  have HLO := Aside0.mk hL
  have HIN := Aside0.mk hin
  have hu62 := Try.underlying62
  clear hl hG hlen hin hL hS hB
  go_enter Try.func31, Try.ntmps31
  go_wp2
  go_loopw [6, 14] (fun q i wr => ∃ k : Nat, ∃ at_ : Int, k ≤ l.length ∧ i = .int .i64 k ∧ q = .int .i64 at_ ∧ Aside0 ((at_ = -1 ∧ hits L (l.take k) = []) ∨ ∃ j : Nat, j < k ∧ at_ = j ∧ hits L (l.take k) = [l.getD j z62]) ∧ Aside0 (Below w.heap.size w wr)) (fun _ i _ => l.length - (intOf i).toNat)
  case atStart => exact ⟨0, -1, Nat.zero_le _, rfl, rfl, ⟨.inl ⟨rfl, rfl⟩⟩, ⟨Below.refl _ _⟩⟩
  case round =>
    obtain ⟨k, at_, hk, rfl, rfl, HQ, HB⟩ := hrel
    have hs1 : ∀ o : Obj, (wr.alloc o).cell? ⟨S, 1, none⟩ = some (.map (some m)) := fun o => (blk_cell (solver_below HS.out (below_alloc HB.out o)) 1).trans rfl
    by_cases hlt : k < l.length
    · obtain ⟨ad, e, hx0, hx1⟩ := at_T62 HL.out (k : Int) (by omega) (by omega)
      cases e
      have hpin := HIN.out (l.getD k z62) (by rw [List.getD_eq_getElem?_getD, List.getElem?_eq_getElem hlt]; exact List.getElem_mem hlt)
      have hs := hits_succ L l k hlt
      rw [Int.toNat_natCast] at hx0 hx1
      have hrd : rd_T62 l k = l.getD k z62 := by unfold rd_T62; rw [Int.toNat_natCast]
      rw [hrd] at hx0 hx1
      have hpk : l.getD k z62 = l.getD k z62 := rfl
      generalize hp : l.getD k z62 = p at hpin hs hx0 hx1
      have HP := Aside0.mk hp
      obtain ⟨p0, p1⟩ := p
      simp only at hpin hs hx0 hx1
      obtain ⟨h0, h1, h2, h3⟩ := hpin
      obtain ⟨i, rfl⟩ := Int.eq_ofNat_of_zero_le h0
      obtain ⟨d, rfl⟩ := Int.eq_ofNat_of_zero_le h2
      replace hx0 := (HB.out.cell (World.block_lt_of_cell? w _ hx0)).trans hx0
      replace hx1 := (HB.out.cell (World.block_lt_of_cell? w _ hx1)).trans hx1
      have hnp : np ⟨(i : Int), (d : Int)⟩ = (i, d) := by simp [np]
      rw [hnp] at hs
      obtain ⟨v, hlk0⟩ := lost_look (lost_below HLO.out HB.out) (i, d) ⟨by omega, by omega⟩
      have hlk : ∀ (o : Obj) (n : Nat), (Instr.lookup 58 (.map (some m)) (.agg #[.int .i64 i, .int .i64 d]) true).run Try.prog ((wr.alloc o).drewN n) = .ok (.tuple #[v, .bool (decide ((i, d) ∈ L))]) ((wr.alloc o).drewN n) := fun o n =>
        hlk0 _ (by
          show (wr.alloc o).heap[m]? = wr.heap[m]?
          exact (below_alloc (Below.refl wr.heap.size wr) o).block m (lost_lt (lost_below HLO.out HB.out)))
      have HSS := Aside0.mk hs
      clear hs hrd hlk0 hpk hp hnp
      by_cases hmem : (i, d) ∈ L
      · have hlk2 : ∀ (o : Obj) (n : Nat), (Instr.lookup 58 (.map (some m)) (.agg #[.int .i64 i, .int .i64 d]) true).run Try.prog ((wr.alloc o).drewN n) = .ok (.tuple #[v, .bool true]) ((wr.alloc o).drewN n) := fun o n => by rw [hlk o n]; simp [hmem]
        have HM := Aside0.mk hmem
        clear hlk hmem
        rcases HQ.out with ⟨hat, hh⟩ | ⟨j, hj, hat, hh⟩
        · subst hat
          have HH := Aside0.mk hh
          clear hh HQ
          go_wp2
          go_quiet (fail)
          go_wp2
          go_roundw
          case rel => exact ⟨k + 1, k, by omega, by go_num, rfl, ⟨.inr ⟨k, by omega, rfl, by rw [HSS.out, HH.out, if_pos HM.out, HP.out]; rfl⟩⟩, ⟨by repeat (first | exact HB.out | apply below_alloc | apply pw_below_drewN | apply below_drew1)⟩⟩
          case measure => simp [intOf]; omega
        · subst hat
          have hmany := fill_many (gs := gs) (sum := sum) (hits_sub L l (k + 1) 2 (by rw [HSS.out, hh, if_pos HM.out]; simp))
          have HMN := Aside0.mk hmany
          clear hh HQ hmany
          go_wp2
          go_quiet (fail)
          go_wp2
          go_end0
          rw [HMN.out.1, HMN.out.2]
          have hb' : Below w.heap.size w ((wr.alloc (.cells #[.int .i64 i, .int .i64 d] 62)).drewN nq) := by repeat (first | exact HB.out | apply below_alloc | apply pw_below_drewN | apply below_drew1)
          exact ⟨rfl, below_then HB0.out hBw hb', solver_below HS.out hb', grid_below HGD.out hb', lost_below HLO.out hb'⟩
      · have hlk2 : ∀ (o : Obj) (n : Nat), (Instr.lookup 58 (.map (some m)) (.agg #[.int .i64 i, .int .i64 d]) true).run Try.prog ((wr.alloc o).drewN n) = .ok (.tuple #[v, .bool false]) ((wr.alloc o).drewN n) := fun o n => by rw [hlk o n]; simp [hmem]
        have HM := Aside0.mk hmem
        clear hlk hmem
        go_wp2
        go_quiet (fail)
        go_wp2
        go_roundw
        case rel => exact ⟨k + 1, at_, by omega, by go_num, rfl, ⟨by rw [HSS.out, if_neg HM.out, List.append_nil]; exact HQ.out.imp_right (fun ⟨j, hj, h⟩ => ⟨j, by omega, h⟩)⟩, ⟨by repeat (first | exact HB.out | apply below_alloc | apply pw_below_drewN | apply below_drew1)⟩⟩
        case measure => simp [intOf]; omega
    · obtain rfl : k = l.length := by omega
      rw [List.take_length] at HQ
      rcases HQ.out with ⟨hat, hh⟩ | ⟨j, hj, hat, hh⟩
      · subst hat
        have hf : fillL L l = L ∧ fillG gs L l sum = gs := by unfold fillL fillG; rw [hh]; exact ⟨rfl, rfl⟩
        have HF := Aside0.mk hf
        clear hh HQ hf
        go_wp2
        go_end0
        rw [HF.out.1, HF.out.2]
        exact ⟨rfl, below_then HB0.out hBw HB.out, solver_below HS.out HB.out, grid_below HGD.out HB.out, lost_below HLO.out HB.out⟩
      · subst hat
        have HH := Aside0.mk hh
        clear hh HQ
        obtain ⟨ad, e, hx0, hx1⟩ := at_T62 HL.out (j : Int) (by omega) (by omega)
        cases e
        have hpin := HIN.out (l.getD j z62) (by rw [List.getD_eq_getElem?_getD, List.getElem?_eq_getElem hj]; exact List.getElem_mem hj)
        rw [Int.toNat_natCast] at hx0 hx1
        have hrd : rd_T62 l j = l.getD j z62 := by unfold rd_T62; rw [Int.toNat_natCast]
        rw [hrd] at hx0 hx1
        clear hrd
        generalize hp : l.getD j z62 = p at hpin hx0 hx1 HH
        clear hp
        obtain ⟨p0, p1⟩ := p
        simp only at hpin hx0 hx1
        obtain ⟨h0, h1, h2, h3⟩ := hpin
        obtain ⟨i, rfl⟩ := Int.eq_ofNat_of_zero_le h0
        obtain ⟨d, rfl⟩ := Int.eq_ofNat_of_zero_le h2
        replace hx0 := (HB.out.cell (World.block_lt_of_cell? w _ hx0)).trans hx0
        replace hx1 := (HB.out.cell (World.block_lt_of_cell? w _ hx1)).trans hx1
        go_wp2
        have HX : Aside0 ((wr.alloc (.cells #[.int .i64 i, .int .i64 d] 62)).heap[wr.heap.size]? = some (.cells #[.int .i64 i, .int .i64 d] 62 (0, 0))) := ⟨by simpa using heap_alloc_new wr _⟩
        have HB1 := Aside0.mk (below_alloc HB.out (.cells #[.int .i64 i, .int .i64 d] 62))
        generalize hX : wr.heap.size = X at HX ⊢
        generalize wr.alloc (.cells #[.int .i64 i, .int .i64 d] 62) = W1 at HX HB1 ⊢
        have HS1 := Aside0.mk (solver_below HS.out HB1.out)
        have HG1 := Aside0.mk (grid_below HGD.out HB1.out)
        have HL1 := Aside0.mk (lost_below HLO.out HB1.out)
        have HBB := Aside0.mk (below_then HB0.out hBw HB1.out)
        clear hx0 hx1 HB hX
        have hc0 : W1.cell? ⟨S, 0, none⟩ = some (.pointer (some ⟨b, 0, none⟩)) := (blk_cell HS1.out 0).trans rfl
        have hcx0 : W1.cell? ⟨X, 0, none⟩ = some (.int .i64 i) := (blk_cell HX.out 0).trans rfl
        have hcx1 : W1.cell? ⟨X, 1, none⟩ = some (.int .i64 d) := (blk_cell HX.out 1).trans rfl
        have hcg : W1.cell? ⟨b, i * 5 + d, none⟩ = some (.int .u8 (gs.getD (i * 5 + d) 0)) := grid_cell HG1.out _ (by rw [HLN.out]; omega)
        have hfg : W1.frozen? ⟨b, i * 5 + d, none⟩ = false := grid_free HG1.out _
        have hHL1 := Kd.C_below HL.out HB1.out
        have hbS : S ≠ b := blk_ne HS1.out HG1.out (by decide)
        have hbX : X ≠ b := blk_ne HX.out HG1.out (by decide)
        have hbm : m ≠ b := lost_ne HL1.out HG1.out
        have hmv : ∀ (o : Nat) (u : Value) (q : Nat), q ≠ b → ((W1.setCell ⟨b, o, none⟩ u).drew).heap[q]? = W1.heap[q]? := fun o u q hq => Below.heap_setCell W1 ⟨b, o, none⟩ u q hq
        have HC2 : Aside0 (Kd.C k62 ((W1.setCell ⟨b, i * 5 + d, none⟩ (.int .u8 0)).drew) (some ad) l.length l) := ⟨C62_move hHL1 (fun hn ad2 e2 => hmv _ _ _ (C62_apart hHL1 HG1.out hn ad2 e2))⟩
        have HS2 : Aside0 (SolverAt ((W1.setCell ⟨b, i * 5 + d, none⟩ (.int .u8 0)).drew) S b m) := ⟨(hmv _ _ _ hbS).trans HS1.out⟩
        have HX2 : Aside0 (((W1.setCell ⟨b, i * 5 + d, none⟩ (.int .u8 0)).drew).heap[X]? = some (.cells #[.int .i64 i, .int .i64 d] 62 (0, 0))) := ⟨(hmv _ _ _ hbX).trans HX.out⟩
        have HL2 : Aside0 (LostAt ((W1.setCell ⟨b, i * 5 + d, none⟩ (.int .u8 0)).drew) m L) := ⟨lost_move HL1.out (hmv _ _ _ hbm)⟩
        have HG2 : Aside0 (GridAt ((W1.setCell ⟨b, i * 5 + d, none⟩ (.int .u8 0)).drew) b (gs.set (i * 5 + d) 0)) := ⟨grid_set HG1.out _ _⟩
        have HBB2 : Aside0 (Below B w0 ((W1.setCell ⟨b, i * 5 + d, none⟩ (.int .u8 0)).drew)) := ⟨below_drew1 (HBB.out.setCell (p := ⟨b, i * 5 + d, none⟩) hBb _)⟩
        clear hHL1 hmv
        go_region
        clear hc0 hcx0 hcx1 hcg hfg
        generalize (W1.setCell ⟨b, i * 5 + d, none⟩ (.int .u8 0)).drew = W2 at HC2 HS2 HX2 HL2 HG2 HBB2 ⊢
        clear HX HB1 HS1 HG1 HL1 HBB
        obtain ⟨g2, hg2⟩ : ∃ g2, g2 = gs.set (i * 5 + d) 0 := ⟨_, rfl⟩
        have HG2S := Aside0.mk hg2
        rw [← hg2] at HG2
        have HLN2 : Aside0 (g2.length = 20) := ⟨by rw [hg2, List.length_set]; exact HLN.out⟩
        clear hg2
        have hc0 : W2.cell? ⟨S, 0, none⟩ = some (.pointer (some ⟨b, 0, none⟩)) := (blk_cell HS2.out 0).trans rfl
        have hcx0 : W2.cell? ⟨X, 0, none⟩ = some (.int .i64 i) := (blk_cell HX2.out 0).trans rfl
        have hcx1 : W2.cell? ⟨X, 1, none⟩ = some (.int .i64 d) := (blk_cell HX2.out 1).trans rfl
        have HC2d : Aside0 (Kd.C k62 W2.drew (some ad) l.length l) := ⟨C62_move HC2.out (fun _ _ _ => rfl)⟩
        go_wp2
        have hd5 : (d : Int) < 5 := by omega
        go_region_held3 (fun w' => w'.cell? ⟨S, 0, none⟩ = some (.pointer (some ⟨b, 0, none⟩)) ∧ w'.cell? ⟨X, 0, none⟩ = some (.int .i64 i) ∧ w'.cell? ⟨X, 1, none⟩ = some (.int .i64 d)) (first | exact ⟨hc0, hcx0, hcx1⟩ | exact ⟨hc04, hcx04, hcx14⟩ | exact ⟨hc05 _, hcx05 _, hcx15 _⟩) (first | (go_at_call 27; refine (sum_calls b g2 _ _ _ W2.drew HG2.out HLN2.out HC2d.out HIN.out).mono ?_; rintro e w4 ⟨rfl, hb4⟩; have HB4 := Aside0.mk hb4; clear hb4; have HS4 := Aside0.mk (solver_below (W := W2.drew) HS2.out HB4.out); have HX4 := Aside0.mk ((HB4.out.block X (blk_lt HX2.out)).trans HX2.out); have hc04 : w4.cell? ⟨S, 0, none⟩ = some (.pointer (some ⟨b, 0, none⟩)) := (blk_cell HS4.out 0).trans rfl; have hcx04 : w4.cell? ⟨X, 0, none⟩ = some (.int .i64 i) := (blk_cell HX4.out 0).trans rfl; have hcx14 : w4.cell? ⟨X, 1, none⟩ = some (.int .i64 d) := (blk_cell HX4.out 1).trans rfl; have hcg4 : w4.cell? ⟨b, i * 5 + d, none⟩ = some (.int .u8 (g2.getD (i * 5 + d) 0)) := grid_cell (grid_below (W := W2.drew) HG2.out HB4.out) _ (by rw [HLN2.out]; omega); have hfg4 : w4.frozen? ⟨b, i * 5 + d, none⟩ = false := grid_free (grid_below (W := W2.drew) HG2.out HB4.out) _; have hc05 : ∀ v, (w4.setCell ⟨b, i * 5 + d, none⟩ v).cell? ⟨S, 0, none⟩ = some (.pointer (some ⟨b, 0, none⟩)) := fun v => (blk_cell (blk_far HS4.out (p := ⟨b, i * 5 + d, none⟩) hbS v) 0).trans rfl; have hcx05 : ∀ v, (w4.setCell ⟨b, i * 5 + d, none⟩ v).cell? ⟨X, 0, none⟩ = some (.int .i64 i) := fun v => (blk_cell (blk_far HX4.out (p := ⟨b, i * 5 + d, none⟩) hbX v) 0).trans rfl; have hcx15 : ∀ v, (w4.setCell ⟨b, i * 5 + d, none⟩ v).cell? ⟨X, 1, none⟩ = some (.int .i64 d) := fun v => (blk_cell (blk_far HX4.out (p := ⟨b, i * 5 + d, none⟩) hbX v) 1).trans rfl))
        have HG4 := Aside0.mk (grid_below (W := W2.drew) HG2.out HB4.out)
        have HL4 := Aside0.mk (lost_below (W := W2.drew) HL2.out HB4.out)
        have HBB4 := Aside0.mk (below_then (below_drew1 HBB2.out) (Nat.le_of_lt (Nat.lt_of_le_of_lt hBb (Array.getElem?_eq_some_iff.1 HG2.out).1)) HB4.out)
        obtain ⟨V, hV⟩ : ∃ V, V = Go.bits .xor .u8 (sumOf g2 l) sum := ⟨_, rfl⟩
        rw [← hV]
        have HV := Aside0.mk hV
        have HS5 : Aside0 (SolverAt (w4.setCell ⟨b, i * 5 + d, none⟩ (.int .u8 V)) S b m) := ⟨blk_far HS4.out (p := ⟨b, i * 5 + d, none⟩) hbS _⟩
        have HX5 : Aside0 ((w4.setCell ⟨b, i * 5 + d, none⟩ (.int .u8 V)).heap[X]? = some (.cells #[.int .i64 i, .int .i64 d] 62 (0, 0))) := ⟨blk_far HX4.out (p := ⟨b, i * 5 + d, none⟩) hbX _⟩
        have HG5 : Aside0 (GridAt (w4.setCell ⟨b, i * 5 + d, none⟩ (.int .u8 V)) b (g2.set (i * 5 + d) V)) := ⟨grid_set HG4.out _ _⟩
        have HL5 : Aside0 (LostAt (w4.setCell ⟨b, i * 5 + d, none⟩ (.int .u8 V)) m L) := ⟨lost_move HL4.out (Below.heap_setCell w4 ⟨b, i * 5 + d, none⟩ _ m hbm)⟩
        have HBB5 : Aside0 (Below B w0 (w4.setCell ⟨b, i * 5 + d, none⟩ (.int .u8 V))) := ⟨HBB4.out.setCell (p := ⟨b, i * 5 + d, none⟩) hBb _⟩
        clear hV HB4 HS4 HX4 HG4 HL4 HBB4 hc05 hcx05 hcx15 hc04 hcx04 hcx14 hcg4 hfg4 hc0 hcx0 hcx1
        generalize w4.setCell ⟨b, i * 5 + d, none⟩ (.int .u8 V) = W5 at HS5 HX5 HG5 HL5 HBB5 ⊢
        have hbs : S ≠ m := fun e => lost_ne HL5.out HS5.out e.symm
        have hc1 : W5.cell? ⟨S, 1, none⟩ = some (.map (some m)) := (blk_cell HS5.out 1).trans rfl
        have hcx0 : W5.cell? ⟨X, 0, none⟩ = some (.int .i64 i) := (blk_cell HX5.out 0).trans rfl
        have hcx1 : W5.cell? ⟨X, 1, none⟩ = some (.int .i64 d) := (blk_cell HX5.out 1).trans rfl
        obtain ⟨es, clock, hdel, hlost⟩ := lost_delete (W := W5.drew) HL5.out (i, d) ⟨by omega, by omega⟩
        have hdel2 : ∀ ty : TypeId, (Builtin.delete_ #[58, 62] ty #[.map (some m), .agg #[.int .i64 i, .int .i64 d]]).run Try.prog W5.drew = .ok (.tuple #[]) (setBlock W5.drew m (.map es clock)) := hdel
        clear hdel
        have HLO6 := Aside0.mk hlost
        clear hlost
        go_wp2
        go_region
        have hfl : fillL L l = L.erase (i, d) := by unfold fillL; rw [HH.out]; simp [np]
        have hfg : fillG gs L l sum = g2.set (i * 5 + d) V := by unfold fillG; rw [HH.out]; simp [gi, fillV, ← HG2S.out, ← HV.out]
        rw [hfl, hfg]
        go_end0
        exact ⟨rfl, setBlock_below (below_drew1 HBB5.out) hBm _, (setBlock_ne W5.drew _ hbs).trans HS5.out, (setBlock_ne W5.drew _ (Ne.symm hbm)).trans HG5.out, HLO6.out⟩
end Go.Proofs.Ytpgakpeodddnkaa.C
