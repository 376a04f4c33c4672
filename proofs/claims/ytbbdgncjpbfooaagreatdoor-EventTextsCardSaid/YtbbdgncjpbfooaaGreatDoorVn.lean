/- casebookref11.Text: what a call returns. -/
import Derived.Test.YtbbdgncjpbfooaaGreatDoorVb
import Derived.Test.YtbbdgncjpbfooaaGreatDoorVm
namespace Go.Proofs.YtbbdgncjpbfooaaGreatDoor
open Go.RowKit

/-- an append at a step of a region that draws its order -/
theorem step_append_own {P : Program} {w : World} {ops : Array Oper} {o : Oper} {a : Act} {K : Act → World → Prop} {Q : Exit → Act → World → Prop} {E : Prop} (hgd : o.guard = none) (s x : Operand) (t : TypeId)
    (ho : o.op = .call { callee := .builtin .append, args := #[s, x], argTypes := #[t, t] })
    (base : Nat) (e : TypeId) (i : TypeInfo) (z : Value) (size bytes : Nat) (ht : P.underlying t = some (.slice e)) (hi : P.info? e = some i) (hz : i.zero = some z)
    (hsize : i.size = size) (hby : i.bytes = bytes) (hzs : z.cells.size = size) (hsz : 0 < size)
    (v : Value) (n : Nat) (xs : List Value) (hs : a.eval s = v) (hown : w.ownsRow base e size v n xs)
    (ad : Addr) (m c : Nat) (news : List Value) (hx : a.eval x = .slice (some ad) m c) (hl : news.length = m * size) (hnews : ∀ j u, news[j]? = some u → w.cell? (ad.add j) = some u) (h1 : ∀ u ∈ news, u.oneCell' = true)
    (h63 : n + m ≤ maxLen) (hbytes : (n + m) * bytes ≤ 140737488355328) (hbase : base ≤ w.heap.size)
    (h : ∀ v' w', w'.ownsRow base e size v' (n + m) (xs ++ news) → w.grownBy w' v.ownBlock → K (a.put o.dst v') w') :
    if Region.wanted o (yielded ops a.tmps) = true then Oper.wp P o a w K Q else E := by
  have hw : Region.wanted o (yielded ops a.tmps) = true := by simp [Region.wanted, hgd]
  rw [if_pos hw]
  exact wp_append_own w s x t ho base e i z size bytes ht hi hz hsize hby hzs hsz v n xs hs hown ad m c news hx hl hnews h1 h63 hbytes hbase fun v' w' h2 h3 _ => h v' w' h2 h3
set_option maxHeartbeats 6400000 in
set_option maxRecDepth 100000 in
theorem revtx_any (e : Ev) (A : Option Addr) (n cap : Nat) (w : World) (h : FdIn w A e.d) (hn : e.d.length = n) (hn2 : n ≤ 1000000) (hf : e.fit 9223372036854775000) :
    Calls Tryz.prog 10 #[.agg #[.string e.c, .string e.a, .string e.r, .int .i64 e.life, .int .i64 e.time, .slice A n cap]] w fun x w' => x = etRet e ∧ Below w.heap.size w w' := by
  have HX := Lib.hid (fun w h => revalid_any e A n cap w h hn hn2 hf)
  have HO := Lib.hid (below_alloc w (.cells #[.string e.c, .string e.a, .string e.r, .int .i64 e.life, .int .i64 e.time, .slice A n cap] 24))
  have HE0 := Lib.hid (EB.new w e A n cap)
  have H0 := Lib.hid h
  clear h
  cases hv : e.ok with
  | false =>
    have HR := Lib.hid (etRet_no hv)
    rw [hv] at HX
    clear hv hf hn
    go_enter Tryz.func10, Tryz.ntmps10
    go_wp2_with fail
    ((with_reducible refine (HX.out _ (H0.out.below HO.out)).mono ?_); rintro x w1 ⟨rfl, hb1⟩)
    go_wp2_with fail
    go_ret2
    exact ⟨HR.out.symm, below_then HO.out hb1⟩
  | true =>
    have HR := Lib.hid (etRet_yes hv)
    obtain ⟨hl1, hl6, ht0, ht1, hd8⟩ := ev_head e hv
    have HV := Lib.hid (fun k hk => ev_field e hv k hk)
    have HWS := Lib.hid (ws_ok e hv)
    have HTB := Lib.hid (textB_ws e)
    have HTS := Lib.hid (textB_succ e)
    have hTL := textB_len e
    have HTZ := Lib.hid (textB_zero e)
    have HTL := Lib.hid hTL
    have HFF := Lib.hid hf.2.2.2
    rw [hv] at HX
    have HN := Lib.hid hn
    have hn8 : n ≤ 8 := by omega
    obtain ⟨i0, hi, hz0, hz1, hz2⟩ := info_parts strInfo
    have HI := Lib.hid (And.intro hi (And.intro hz0 (And.intro hz1 hz2)))
    clear hv hf hn hi hz0 hz1 hz2 hTL hd8
    go_enter Tryz.func10, Tryz.ntmps10
    go_wp2_with fail
    ((with_reducible refine (HX.out _ (H0.out.below HO.out)).mono ?_); rintro x w1 ⟨rfl, hb1⟩)
    have HE1 := Lib.hid (HE0.out.below hb1)
    have HB1 := Lib.hid (below_then HO.out hb1)
    have HZ1 := HE1.out.lt
    clear hb1 HX HE0
    go_wp2_with fail
    go_cut [4] (fun s4 wx => ∃ v, s4 = v ∧ TSt w wx v (textB e 0) e A n cap)
    case first =>
      obtain ⟨c0, c1, c2, c3, c4, c5⟩ := HE1.out.cells
      have HW := Lib.hid (fun w => rword_any e.life w hl1 hl6)
      have HD := Lib.hid (fun w => decimal_any 19 e.time w (by omega) (by omega) (by omega))
      have hS0 : w1.cell? ⟨w.heap.size, 0, none⟩ = some (.string e.c) ∧ w1.cell? ⟨w.heap.size, 1, none⟩ = some (.string e.a) ∧ w1.cell? ⟨w.heap.size, 2, none⟩ = some (.string e.r) ∧ w1.cell? ⟨w.heap.size, 3, none⟩ = some (.int .i64 e.life) ∧ w1.cell? ⟨w.heap.size, 4, none⟩ = some (.int .i64 e.time) := ⟨c0, c1, c2, c3, c4⟩
      refine wp_region_held_drew (S := fun w' => w'.cell? ⟨w.heap.size, 0, none⟩ = some (.string e.c) ∧ w'.cell? ⟨w.heap.size, 1, none⟩ = some (.string e.a) ∧ w'.cell? ⟨w.heap.size, 2, none⟩ = some (.string e.r) ∧ w'.cell? ⟨w.heap.size, 3, none⟩ = some (.int .i64 e.life) ∧ w'.cell? ⟨w.heap.size, 4, none⟩ = some (.int .i64 e.time)) (by kernel_rfl) hS0 (fun hHeld => ?_)
      refine wpAnyH_take (i := 0) (v := ?_) rfl (by kernel_rfl) (by kernel_rfl) (by kernel_rfl) (fun _ _ _ h => h) (Or.inl ⟨by rfl, ?_⟩) (by assumption) ?_
      rotate_left
      · intro w hSw; (try dsimp only at hSw); go_simp; try (with_reducible rfl)
      try go_simp
      refine wpAnyH_take (i := 1) (v := ?_) rfl (by kernel_rfl) (by kernel_rfl) (by kernel_rfl) (fun _ _ _ h => h) (Or.inl ⟨by rfl, ?_⟩) (by assumption) ?_
      rotate_left
      · intro w hSw; (try dsimp only at hSw); go_simp; try (with_reducible rfl)
      try go_simp
      refine wpAnyH_take (i := 2) (v := ?_) rfl (by kernel_rfl) (by kernel_rfl) (by kernel_rfl) (fun _ _ _ h => h) (Or.inl ⟨by rfl, ?_⟩) (by assumption) ?_
      rotate_left
      · intro w hSw; (try dsimp only at hSw); go_simp; try (with_reducible rfl)
      try go_simp
      refine wpAnyH_take (i := 3) (v := ?_) rfl (by kernel_rfl) (by kernel_rfl) (by kernel_rfl) (fun _ _ _ h => h) (Or.inl ⟨by rfl, ?_⟩) (by assumption) ?_
      rotate_left
      · intro w hSw; (try dsimp only at hSw); go_simp; try (with_reducible rfl)
      try go_simp
      refine wpAnyH_take (i := 4) (v := ?_) rfl (by kernel_rfl) (by kernel_rfl) (by kernel_rfl) (fun _ _ _ h => h) (Or.inl ⟨by rfl, ?_⟩) (by assumption) ?_
      rotate_left
      · intro w hSw; (try dsimp only at hSw); go_simp; try (with_reducible rfl)
      try go_simp
      refine wpAnyH_take (i := 5) (v := ?_) rfl (by kernel_rfl) (by kernel_rfl) (by kernel_rfl) (fun _ _ _ h => h) (Or.inl ⟨by rfl, ?_⟩) (by assumption) ?_
      rotate_left
      · intro w hSw; (try dsimp only at hSw); go_simp; try (with_reducible rfl)
      try go_simp
      refine wpAnyH_take (i := 6) (v := ?_) rfl (by kernel_rfl) (by kernel_rfl) (by kernel_rfl) (fun _ _ _ h => h) (Or.inl ⟨by rfl, ?_⟩) (by assumption) ?_
      rotate_left
      · intro w hSw; (try dsimp only at hSw); go_simp; try (with_reducible rfl)
      try go_simp
      refine wpAnyH_take (i := 7) (v := ?_) rfl (by kernel_rfl) (by kernel_rfl) (by kernel_rfl) (fun _ _ _ h => h) (Or.inl ⟨by rfl, ?_⟩) (by assumption) ?_
      rotate_left
      · intro w hSw; (try dsimp only at hSw); go_simp; try (with_reducible rfl)
      try go_simp
      refine wpAnyH_take (i := 9) (v := ?_) rfl (by kernel_rfl) (by kernel_rfl) (by kernel_rfl) (fun _ _ _ h => h) (Or.inl ⟨by rfl, ?_⟩) (by assumption) ?_
      rotate_left
      · intro w hSw; (try dsimp only at hSw); go_simp; try (with_reducible rfl)
      try go_simp
      refine wpAnyH_take (i := 10) (v := ?_) rfl (by kernel_rfl) (by kernel_rfl) (by kernel_rfl) (fun _ _ _ h => h) (Or.inl ⟨by rfl, ?_⟩) (by assumption) ?_
      rotate_left
      · intro w hSw; (try dsimp only at hSw); go_simp; try (with_reducible rfl)
      try go_simp
      refine wpAnyH_ready (rs := [8]) (by kernel_rfl) (by simp) ?_
      refine AllReadyH.cons rfl (fun K hK => ?_) AllReadyH.nil
      go_simp
      ((refine (HW.out _).mono ?_); rintro x wm ⟨rfl, rfl⟩)
      refine hK.out _ _ (hHeld) (fun hHeld => ?_)
      clear hK K
      try go_simp
      refine wpAnyH_ready (rs := [11]) (by kernel_rfl) (by simp) ?_
      refine AllReadyH.cons rfl (fun K hK => ?_) AllReadyH.nil
      go_simp
      ((refine (HD.out _).mono ?_); rintro x wm ⟨rfl, rfl⟩)
      refine hK.out _ _ (hHeld) (fun hHeld => ?_)
      clear hK K
      try go_simp
      refine wpAnyH_ready (rs := [12]) (by kernel_rfl) (by simp) ?_
      refine AllReadyH.cons rfl (fun K hK => ?_) AllReadyH.nil
      go_simp
      skip
      refine hK.out _ _ (⟨cell_stays (below_alloc _ _) hHeld.1, cell_stays (below_alloc _ _) hHeld.2.1, cell_stays (below_alloc _ _) hHeld.2.2.1, cell_stays (below_alloc _ _) hHeld.2.2.2.1, cell_stays (below_alloc _ _) hHeld.2.2.2.2⟩) (fun hHeld => ?_)
      clear hK K
      try go_simp
      have hS3 := hHeld
      refine wpAnyH_ready (rs := [13]) (by kernel_rfl) (by simp) ?_
      refine AllReadyH.cons rfl (fun K hK => ?_) AllReadyH.nil
      go_simp
      skip
      refine hK.out _ _ (hS3) (fun hHeld => ?_)
      clear hK K
      try go_simp
      refine wpAnyH_done (by kernel_rfl) ?_ _
      go_wp2_with fail
      go_meet
      refine ⟨_, rfl, ?_⟩
      rw [HTZ.out]
      exact (TSt.lit HE1.out HB1.out _ _ _ _ _).below (Below.refl _ _).drew
    case rest =>
      obtain ⟨v, rfl, hS⟩ := hcut
      have HS0 := Lib.hid hS
      obtain ⟨A4, c4, rfl⟩ := hS.slice
      obtain ⟨c0, c1, c2, c3, c4', c5⟩ := hS.eb.cells
      clear hS c0 c1 c2 c3 c4'
      go_wp2_with fail
      clear c5
      go_loopg [4, 5] (n) (fun g v i wr => ∃ k : Nat, k + g = n ∧ i = .int .i64 k ∧ TSt w wr v (textB e k) e A n cap)
      case atStart => exact ⟨0, by omega, rfl, HS0.out⟩
      case round =>
        obtain ⟨k, hk, rfl, hS⟩ := hrel
        have HS := Lib.hid hS
        have HK := Lib.hid hk
        obtain ⟨A5, c6, rfl⟩ := hS.slice
        have hlen := HTL.out k
        have hle : k ≤ n := by omega
        clear hk hS HS0
        by_cases hlt : k < n
        · have hlt' : k < e.d.length := by rw [HN.out]; exact hlt
          have hbw : Below w.heap.size w wr := HS.out.bel
          obtain ⟨ad, rfl, hpw, _, _, _, _⟩ := H0.out k hlt'
          obtain ⟨ad', had, _, c0, c1, c2, c3⟩ := (H0.out.below hbw) k hlt'
          cases had
          have HSU := Lib.hid (HTS.out k hlt')
          have HVO := Lib.hid (HV.out k hlt')
          have HFX := Lib.hid (HFF.out _ (List.getElem_mem hlt'))
          generalize e.d[k] = x at *
          obtain ⟨xn, xv⟩ := x
          obtain ⟨xk, xi, xs⟩ := xv
          simp only at *
          clear hbw hlt'
          generalize textB e k = L at *
          obtain ⟨_, _, _, _, _, c5⟩ := HS.out.eb.cells
          have HX2 := Lib.hid (fun w => rvtx_any ⟨xk, xi, xs⟩ w HVO.out)
          have HTX := Lib.hid (tx_cat ⟨xn, ⟨xk, xi, xs⟩⟩)
          have HVL := Lib.hid (val_pr _ HVO.out)
          generalize (⟨xk, xi, xs⟩ : Vl).tx = tx at HX2 HTX HVL
          simp only at HTX
          obtain ⟨y, hy⟩ : ∃ y : ByteArray, y = ⟨tx.toArray⟩ := ⟨_, rfl⟩
          rw [← hy] at HTX HX2
          have hyl : y.size ≤ 402 := by rw [← len_byte, hy]; exact HVL.out.2
          have hyl2 : (y.size : Int) ≤ 402 := by omega
          have hxl : (xn.size : Int) ≤ 9223372036854775000 := by have := HFX.out.1; omega
          have hS0 : wr.cell? ⟨w.heap.size, 5, none⟩ = some (.slice (some ad) n cap) ∧ wr.cell? (ad.add (k * 4)) = some (.string xn) ∧ wr.cell? ⟨(ad.add (k * 4)).block, (ad.add (k * 4)).off + 1, none⟩ = some (.int .i64 xk) ∧ wr.cell? ⟨(ad.add (k * 4)).block, (ad.add (k * 4)).off + 1 + 1, none⟩ = some (.int .i64 xi) ∧ wr.cell? ⟨(ad.add (k * 4)).block, (ad.add (k * 4)).off + 1 + 1 + 1, none⟩ = some (.string xs) := ⟨c5, c0, c1, c2, c3⟩
          clear hy
          have hxl3 : ¬ 9223372036854775807 < xn.size + 1 := by omega
          go_wp2_with fail
          refine wp_region_held_drew (S := fun wX => wX.cell? ⟨w.heap.size, 5, none⟩ = some (.slice (some ad) n cap) ∧ wX.cell? (ad.add (k * 4)) = some (.string xn) ∧ wX.cell? ⟨(ad.add (k * 4)).block, (ad.add (k * 4)).off + 1, none⟩ = some (.int .i64 xk) ∧ wX.cell? ⟨(ad.add (k * 4)).block, (ad.add (k * 4)).off + 1 + 1, none⟩ = some (.int .i64 xi) ∧ wX.cell? ⟨(ad.add (k * 4)).block, (ad.add (k * 4)).off + 1 + 1 + 1, none⟩ = some (.string xs)) (by kernel_rfl) hS0 (fun hHeld => ?_)
          refine wpAnyH_take (i := 0) (v := ?_) rfl (by kernel_rfl) (by kernel_rfl) (by kernel_rfl) (fun _ _ _ h => h) (Or.inl ⟨by rfl, ?_⟩) (by assumption) ?_
          rotate_left
          · intro w hSw; (try dsimp only at hSw); go_simp; try (with_reducible rfl)
          try go_simp
          refine wpAnyH_take (i := 1) (v := ?_) rfl (by kernel_rfl) (by kernel_rfl) (by kernel_rfl) (fun _ _ _ h => h) (Or.inl ⟨by rfl, ?_⟩) (by assumption) ?_
          rotate_left
          · intro w hSw; (try dsimp only at hSw); go_simp; try (with_reducible rfl)
          try go_simp
          refine wpAnyH_take (i := 2) (v := ?_) rfl (by kernel_rfl) (by kernel_rfl) (by kernel_rfl) (fun _ _ _ h => h) (Or.inl ⟨by rfl, ?_⟩) (by assumption) ?_
          rotate_left
          · intro w hSw; (try dsimp only at hSw); go_simp; try (with_reducible rfl)
          try go_simp
          refine wpAnyH_take (i := 3) (v := ?_) rfl (by kernel_rfl) (by kernel_rfl) (by kernel_rfl) (fun _ _ _ h => h) (Or.inl ⟨by rfl, ?_⟩) (by assumption) ?_
          rotate_left
          · intro w hSw; (try dsimp only at hSw); go_simp; try (with_reducible rfl)
          try go_simp
          refine wpAnyH_take (i := 4) (v := ?_) rfl (by kernel_rfl) (by kernel_rfl) (by kernel_rfl) (fun _ _ _ h => h) (Or.inl ⟨by rfl, ?_⟩) (by assumption) ?_
          rotate_left
          · intro w hSw; (try dsimp only at hSw); go_simp; try (with_reducible rfl)
          try go_simp
          refine wpAnyH_take (i := 5) (v := ?_) rfl (by kernel_rfl) (by kernel_rfl) (by kernel_rfl) (fun _ _ _ h => h) (Or.inl ⟨by rfl, ?_⟩) (by assumption) ?_
          rotate_left
          · intro w hSw; (try dsimp only at hSw); go_simp; try (with_reducible rfl)
          try go_simp
          refine wpAnyH_take (i := 6) (v := ?_) rfl (by kernel_rfl) (by kernel_rfl) (by kernel_rfl) (fun _ _ _ h => h) (Or.inl ⟨by rfl, ?_⟩) (by assumption) ?_
          rotate_left
          · intro w hSw; (try dsimp only at hSw); go_simp; try (with_reducible rfl)
          try go_simp
          refine wpAnyH_take (i := 7) (v := ?_) rfl (by kernel_rfl) (by kernel_rfl) (by kernel_rfl) (fun _ _ _ h => h) (Or.inl ⟨by rfl, ?_⟩) (by assumption) ?_
          rotate_left
          · intro w hSw; (try dsimp only at hSw); go_simp; first | rw [if_neg hxl3] | (with_reducible rfl)
          try go_simp
          refine wpAnyH_take (i := 8) (v := ?_) rfl (by kernel_rfl) (by kernel_rfl) (by kernel_rfl) (fun _ _ _ h => h) (Or.inl ⟨by rfl, ?_⟩) (by assumption) ?_
          rotate_left
          · intro w hSw; (try dsimp only at hSw); go_simp; try (with_reducible rfl)
          try go_simp
          refine wpAnyH_take (i := 9) (v := ?_) rfl (by kernel_rfl) (by kernel_rfl) (by kernel_rfl) (fun _ _ _ h => h) (Or.inl ⟨by rfl, ?_⟩) (by assumption) ?_
          rotate_left
          · intro w hSw; (try dsimp only at hSw); go_simp; try (with_reducible rfl)
          try go_simp
          refine wpAnyH_take (i := 10) (v := ?_) rfl (by kernel_rfl) (by kernel_rfl) (by kernel_rfl) (fun _ _ _ h => h) (Or.inl ⟨by rfl, ?_⟩) (by assumption) ?_
          rotate_left
          · intro w hSw; (try dsimp only at hSw); go_simp; try (with_reducible rfl)
          try go_simp
          refine wpAnyH_take (i := 11) (v := ?_) rfl (by kernel_rfl) (by kernel_rfl) (by kernel_rfl) (fun _ _ _ h => h) (Or.inl ⟨by rfl, ?_⟩) (by assumption) ?_
          rotate_left
          · intro w hSw; (try dsimp only at hSw); go_simp; try (with_reducible rfl)
          try go_simp
          refine wpAnyH_take (i := 12) (v := ?_) rfl (by kernel_rfl) (by kernel_rfl) (by kernel_rfl) (fun _ _ _ h => h) (Or.inl ⟨by rfl, ?_⟩) (by assumption) ?_
          rotate_left
          · intro w hSw; (try dsimp only at hSw); go_simp; try (with_reducible rfl)
          try go_simp
          refine wpAnyH_take (i := 13) (v := ?_) rfl (by kernel_rfl) (by kernel_rfl) (by kernel_rfl) (fun _ _ _ h => h) (Or.inl ⟨by rfl, ?_⟩) (by assumption) ?_
          rotate_left
          · intro w hSw; (try dsimp only at hSw); go_simp; try (with_reducible rfl)
          try go_simp
          refine wpAnyH_ready (rs := [14]) (by kernel_rfl) (by simp) ?_
          refine AllReadyH.cons rfl (fun K hK => ?_) AllReadyH.nil
          go_simp
          ((refine (HX2.out _).mono ?_); rintro x w2 ⟨rfl, hb2⟩)
          refine hK.out _ _ (⟨cell_stays hb2 c5, cell_stays hb2 c0, cell_stays hb2 c1, cell_stays hb2 c2, cell_stays hb2 c3⟩) (fun hHeld => ?_)
          clear hK K
          try go_simp
          have hS1 := hHeld
          have hxl4 : ¬ 9223372036854775807 < xn.size + 1 + y.size := by omega
          refine wpAnyH_take (i := 15) (v := ?_) rfl (by kernel_rfl) (by kernel_rfl) (by kernel_rfl) (fun _ _ _ h => h) (Or.inl ⟨by rfl, ?_⟩) (by assumption) ?_
          rotate_left
          · intro w hSw; (try dsimp only at hSw); go_simp; first | rw [if_neg hxl4] | (with_reducible rfl)
          try go_simp
          refine wpAnyH_ready (rs := [16]) (by kernel_rfl) (by simp) ?_
          refine AllReadyH.cons rfl (fun K hK => ?_) AllReadyH.nil
          go_simp
          skip
          refine hK.out _ _ (⟨cell_stays (below_alloc _ _) hS1.1, cell_stays (below_alloc _ _) hS1.2.1, cell_stays (below_alloc _ _) hS1.2.2.1, cell_stays (below_alloc _ _) hS1.2.2.2.1, cell_stays (below_alloc _ _) hS1.2.2.2.2⟩) (fun hHeld => ?_)
          clear hK K
          try go_simp
          have hb3 : Below wr.heap.size wr w2 := below_then (show Below wr.heap.size wr wr.drew from (Below.refl _ _).drew) hb2
          have HS2 := Lib.hid (HS.out.below hb3)
          have hsz2 : w.heap.size + 1 ≤ w2.heap.size := HS2.out.size
          have hS2 := hHeld
          refine wpAnyH_ready (rs := [17]) (by kernel_rfl) (by simp) ?_
          refine AllReadyH.cons rfl (fun K hK => ?_) AllReadyH.nil
          refine step_append_own rfl _ _ 61 rfl (w.heap.size + 1) 9 i0 (.string ⟨#[]⟩) 1 16 Tryz.underlying61 HI.out.1 HI.out.2.1 HI.out.2.2.1 HI.out.2.2.2 rfl (by decide) (.slice A5 L.length c6) _ _ rfl (HS2.out.own.alloc _) ⟨w2.heap.size, 0, none⟩ 1 1 [.string (xn ++ (⟨#[61]⟩ : ByteArray) ++ y)] rfl rfl ?c1 ?c2 ?c3 ?c4 ?c5 ?_
          case c1 => intro j u hj; match j, hj with | 0, hj => simp at hj; subst hj; simp [Addr.add] | j + 1, hj => simp at hj
          case c2 => intro u hu; simp at hu; subst hu; rfl
          case c3 => unfold maxLen; omega
          case c4 => omega
          case c5 => simp; omega
          intro v' w4 hown4 hgrow4
          have hrow : ∀ b, b < w.heap.size + 1 → some b ≠ (Value.slice A5 L.length c6).ownBlock := fun b hb e => by have := (HS2.out.own.lt b e.symm).1; omega
          refine hK.out _ _ ⟨hgrow4.cell (cell_stays (below_alloc _ _) hS1.1) (hrow _ (Nat.lt_succ_self _)), hgrow4.cell (cell_stays (below_alloc _ _) hS1.2.1) (hrow _ (by show (ad.add (k * 4)).block < _; omega)), hgrow4.cell (cell_stays (below_alloc _ _) hS1.2.2.1) (hrow _ (by show (ad.add (k * 4)).block < _; omega)), hgrow4.cell (cell_stays (below_alloc _ _) hS1.2.2.2.1) (hrow _ (by show (ad.add (k * 4)).block < _; omega)), hgrow4.cell (cell_stays (below_alloc _ _) hS1.2.2.2.2) (hrow _ (by show (ad.add (k * 4)).block < _; omega))⟩ (fun hHeld => ?_)
          clear hK K hS2
          replace HS := Lib.hid (HS2.out.push hown4 hgrow4)
          rw [HTX.out] at HS
          clear hown4 hgrow4 hrow
          try go_simp
          have hS3 := hHeld
          refine wpAnyH_ready (rs := [18]) (by kernel_rfl) (by simp) ?_
          refine AllReadyH.cons rfl (fun K hK => ?_) AllReadyH.nil
          go_simp
          skip
          refine hK.out _ _ (hS3) (fun hHeld => ?_)
          clear hK K
          try go_simp
          refine wpAnyH_done (by kernel_rfl) ?_ _
          go_wp2_with fail
          go_roundg (gk - 1)
          case measure => have := HK.out; omega
          case rel => exact ⟨k + 1, by have := HK.out; omega, by go_num, by rw [HSU.out]; exact HS.out⟩
        · obtain rfl : k = n := by omega
          obtain ⟨_, _, _, _, _, c5⟩ := HS.out.eb.cells
          have HSI := Lib.hid (own_sin HS.out.own)
          have HLW := Lib.hid (show (textB e k).map (·.data.toList) = e.ws by rw [← HTB.out, HN.out])
          have HJ := Lib.hid (fun h => rjoin_ok A5 (textB e k).length c6 (textB e k) wr h rfl (by omega) (by
              intro t ht
              have h1 := HWS.out.2.1 t.data.toList (by rw [← HLW.out]; exact List.mem_map_of_mem ht)
              rw [len_byte] at h1; omega) (by
              intro t ht
              exact HWS.out.1 t.data.toList (by rw [← HLW.out]; exact List.mem_map_of_mem ht)) (by rw [HLW.out]; exact HWS.out.2.2.2.2))
          rw [HLW.out] at HJ
          generalize textB e k = L at *
          have HBL := Lib.hid HS.out.bel
          go_wp2_with fail
          ((with_reducible refine (HJ.out (by obtain ⟨A', c', hv, hin⟩ := HSI.out; cases hv; exact hin.1)).mono ?_); rintro x w2 ⟨rfl, hb2⟩)
          go_wp2_with fail
          go_ret2
          exact ⟨by rw [HR.out]; rfl, below_then HBL.out hb2⟩
end Go.Proofs.YtbbdgncjpbfooaaGreatDoor
