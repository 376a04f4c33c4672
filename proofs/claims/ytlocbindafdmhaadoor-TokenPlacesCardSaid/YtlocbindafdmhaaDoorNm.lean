/- TokenPlaces: what a call returns. -/
import Derived.Test.YtlocbindafdmhaaDoorPp
import Derived.Test.YtlocbindafdmhaaDoorPl
import Derived.Test.YtlocbindafdmhaaDoorShelfL
import Derived.Lib.QuietBelow
import Derived.IntWalk
import Derived.BigQuiet
namespace Go.Proofs.YtlocbindafdmhaaDoor
open Go.RowKit

/-- lines of a text in memory -/
def LnIn (w : World) (b : Nat) (ls : List ByteArray) : Prop := b < w.heap.size ∧ ∀ i (h : i < ls.length), w.cell? ((⟨b, 0, none⟩ : Addr).add i) = some (.string ls[i])
theorem LnIn.below {w w' : World} {b : Nat} {ls : List ByteArray} (h : LnIn w b ls) (hb : Below w.heap.size w w') : LnIn w' b ls := by
  refine ⟨by have := hb.size; have := h.1; omega, fun i hi => ?_⟩
  rw [hb.cell (by unfold Addr.add; split <;> exact h.1)]
  exact h.2 i hi
theorem LnIn.start (w : World) (ls : List ByteArray) (T : TypeId) : LnIn (w.alloc (.cells (ls.map Value.string).toArray T)) w.heap.size ls := by
  refine ⟨by simp, fun i hi => ?_⟩
  have e : (⟨w.heap.size, 0, none⟩ : Addr).add i = ⟨w.heap.size, i, none⟩ := by
    unfold Addr.add; split
    · rename_i h0; have : i = 0 := by simpa using h0
      subst this; rfl
    · simp
  rw [e]
  simp [hi]
theorem lnp_line (l : List UInt8) : ∀ pre, ∀ x ∈ lnp pre l, x.length ≤ pre.length + l.length := by
  induction l with
  | nil => intro pre x hx; simp [lnp] at hx; subst hx; simp
  | cons c l ih =>
    intro pre x hx
    by_cases h : c.toNat = 10
    · simp only [lnp, if_pos h, List.mem_cons] at hx
      rcases hx with rfl | hx
      · omega
      · have := ih [] x hx; simp only [List.length_cons, List.length_nil] at this ⊢; omega
    · simp only [lnp, if_neg h] at hx
      have := ih (pre ++ [c]) x hx
      simp only [List.length_append, List.length_cons, List.length_nil] at this ⊢; omega
theorem places_at (s : ByteArray) (N : List Tk) (h : Placed s.data.toList 0 N) (hl : s.size ≤ 400) (ls : List ByteArray) (hls : ls.map (·.data.toList) = lnp [] s.data.toList) (i : Nat) (hi : i < N.length) :
    ∃ (m q : Nat) (hm : m < ls.length), (tkTd N[i]).l = (m : Int) + 1 ∧ (tkTd N[i]).c = (q : Int) + 1 ∧ q ≤ ls[m].size ∧ ls[m].size ≤ 400 ∧ (((tkTd N[i]).k = 1 ∨ (tkTd N[i]).k = 4) → Lib.hasPrefix (ls[m].extract q ls[m].size).data.toList (tkTd N[i]).u.data.toList = true) := by
  have hsl : s.data.toList.length = s.size := len_byte s
  obtain ⟨o, _, h2, h3, h4⟩ := placed_at _ N 0 h i hi
  obtain ⟨m, L, g1, g2, g3, g4, g5⟩ := place_in s.data.toList o [] 1 h2
  have e : advs (1, ([] : List UInt8).length + 1) (s.data.toList.take o) = N[i].2 := h3.symm
  rw [e] at g1 g3 g4 g5
  rw [← hls] at g2
  obtain ⟨ln, hln, rfl⟩ : ∃ ln, ls[m]? = some ln ∧ ln.data.toList = L := by
    rw [List.getElem?_map] at g2
    cases hx : ls[m]? with
    | none => rw [hx] at g2; cases g2
    | some y => rw [hx] at g2; exact ⟨y, rfl, Option.some.inj g2⟩
  obtain ⟨hm, rfl⟩ := List.getElem?_eq_some_iff.1 hln
  have hlen : ls[m].size ≤ 400 := by
    have h5 : ls[m].data.toList ∈ lnp [] s.data.toList := by rw [← hls]; exact List.mem_map.2 ⟨_, List.getElem_mem hm, rfl⟩
    have := lnp_line _ _ _ h5
    rw [len_byte] at this
    simp only [List.length_nil] at this
    omega
  have hll : ls[m].data.toList.length = ls[m].size := len_byte _
  refine ⟨m, N[i].2.2 - 1, hm, ?_, ?_, by omega, hlen, ?_⟩
  · show ((N[i].2.1 : Nat) : Int) = _; omega
  · show ((N[i].2.2 : Nat) : Int) = _; omega
  · intro hk
    have hk' : N[i].1.k = 1 ∨ N[i].1.k = 4 := by
      rcases hk with h | h
      · left; have h' : (N[i].1.k : Int) = 1 := h; omega
      · right; have h' : (N[i].1.k : Int) = 4 := h; omega
    rcases h4 with ⟨h5, _⟩ | ⟨⟨n, h5⟩, _⟩
    · rw [h5] at hk'; rcases hk' with h | h <;> cases h
    · have h6 := (read_good _ _ _ h5 (by rw [List.length_drop]; omega)).2.2 hk'
      rw [Lib.extract_to_end, g5]
      show Lib.hasPrefix _ N[i].1.t = true
      unfold Lib.hasPrefix
      exact List.isPrefixOf_iff_prefix.2 h6

theorem toks_code (f : Nat) : ∀ (l : List UInt8) (p : Nat × Nat) (out : List Tk) (q : Nat × Nat) (e : Nat), l.length < f → toks f l p out = .error (q, e) → 1 ≤ e := by
  induction f with
  | zero => intro l p out q e h; omega
  | succ f ih =>
    intro l p out q e h ht
    by_cases h0 : l.drop (skipN l false) = []
    · rw [toks_end f _ _ _ h0] at ht; cases ht
    · have hlen := skipN_le l false
      cases hr : readTok (l.drop (skipN l false)) with
      | error k =>
        rw [toks_err f _ _ _ k h0 hr] at ht
        cases ht
        have hne : 0 < (l.drop (skipN l false)).length := List.length_pos_iff.2 h0
        have hz := readTok_code ⟨(l.drop (skipN l false)).toArray⟩ e
        exact hz (by have := len_byte (⟨(l.drop (skipN l false)).toArray⟩ : ByteArray); simp only at this; omega) hr
      | ok x =>
        obtain ⟨t, n⟩ := x
        by_cases ho : out.length = 4000
        · rw [toks_full f _ _ _ t n h0 hr ho] at ht; cases ht; omega
        · rw [toks_next f _ _ _ t n h0 hr ho] at ht
          have hf := readTok_facts _ _ _ hr
          rw [List.length_drop] at hf
          exact ih _ _ _ _ _ (by rw [List.length_drop, List.length_drop]; omega) ht
theorem tokens_cases (l : List UInt8) : (∃ M, tokens l = (M, (0, 0), 0) ∧ Placed l 0 M) ∨ (∃ p e, tokens l = ([], p, e) ∧ 1 ≤ e) := by
  unfold tokens
  split
  · exact .inr ⟨_, _, rfl, by decide⟩
  · cases ht : toks (l.length + 1) l (1, 1) [] with
    | error x =>
      obtain ⟨q, k⟩ := x
      exact .inr ⟨_, _, rfl, toks_code _ _ _ _ _ _ (Nat.lt_succ_self _) ht⟩
    | ok out =>
      obtain ⟨N, h1, h2⟩ := toks_placed l (l.length + 1) 0 [] out (by omega) (by simpa [advs] using ht)
      exact .inl ⟨_, rfl, by rw [h1]; exact h2⟩
theorem ok_short (t : Td) (h : t.ok = true) : t.u.size ≤ 16384 := by
  unfold Td.ok validB at h
  rw [← len_byte]
  generalize t.u.data.toList = u at *
  split at h
  · simp at h; rw [h.1]; simp
  · split at h
    · cases h
    · split at h
      · cases u with
        | nil => simp
        | cons c r => simp only [isNameB, Bool.and_eq_true, decide_eq_true_eq] at h; omega
      · split at h
        · simp at h; exact h.1
        · split at h
          · have hm := sym_mem (of_decide_eq_true h)
            have hall : ∀ y ∈ syms, y.length ≤ 16384 := by decide
            exact hall u hm
          · simp at h; rw [h.2]; simp
theorem below_on {B : Nat} {a b c : World} (h : B ≤ b.heap.size ∧ Below B a b) (k : Below b.heap.size b c) : B ≤ c.heap.size ∧ Below B a c :=
  ⟨Nat.le_trans h.1 k.size, h.2.trans (k.mono h.1)⟩
theorem cell_kept {w w' : World} {a : Addr} {v : Value} (hb : Below w.heap.size w w') (h : w.cell? a = some v) : w'.cell? a = some v := by
  rw [hb.cell (block_lt_of_cell h)]; exact h
theorem ord_td (M : List Tk) (j : Nat) (h : j + 1 < M.length) (hp : plt (M[j].2) (M[j + 1].2)) :
    (tkTd M[j]).l < (tkTd M[j + 1]).l ∨ ((tkTd M[j]).l = (tkTd M[j + 1]).l ∧ (tkTd M[j]).c < (tkTd M[j + 1]).c) := by
  show ((M[j].2.1 : Nat) : Int) < ((M[j + 1].2.1 : Nat) : Int) ∨ (((M[j].2.1 : Nat) : Int) = ((M[j + 1].2.1 : Nat) : Int) ∧ ((M[j].2.2 : Nat) : Int) < ((M[j + 1].2.2 : Nat) : Int))
  unfold plt at hp; omega
set_option maxHeartbeats 12800000 in
set_option maxRecDepth 100000 in
theorem tokenPlaces_walk (s : ByteArray) (w : World) (hP : PR w) (hT : Tb w) (hm : ∃ m, w.cell? ⟨0, 0, none⟩ = some (.int .i64 m)) (hs : s.size ≤ 9223372036854775807) :
    Calls Tryd.prog 9 #[.string s] w fun e w' => e = .returned (.bool true) ∧ Below w.heap.size w w' := by
  obtain ⟨ml, hml⟩ := hm
  have HM := Lib.hid hml; clear hml
  have HP := Lib.hid hP; clear hP
  have HT := Lib.hid hT; clear hT
  by_cases h400 : s.size ≤ 400
  · have q400 : (s.size : Int) ≤ 400 := by omega
    have HTK := Lib.hid (fun w hp => tokens_any s w hp)
    rcases tokens_cases s.data.toList with ⟨M, hX, hpl⟩ | ⟨⟨p1, p2⟩, e, hX, he⟩
    · rw [hX] at HTK
      obtain ⟨hj, hjl, hn1, hn0, M2, ht2, hm2⟩ := placed_back _ M hpl (by rw [len_byte]; exact h400)
      obtain ⟨n, hn⟩ : ∃ n, M.length = n := ⟨_, rfl⟩
      rw [hn] at hn1 hn0
      have HN := Lib.hid hn; clear hn
      have HPLd := Lib.hid hpl
      have HJB := Lib.hid hj
      have HJL := Lib.hid hjl
      have HT2 := Lib.hid ht2
      have HM2 := Lib.hid hm2
      have HOKS := Lib.hid (placed_ok _ M hpl (by rw [len_byte]; omega))
      have HORD := Lib.hid (placed_ord _ M 0 hpl)
      clear hpl hj hjl ht2 hm2 hX
      go_enter Tryd.func9, Tryd.ntmps9
      go_wp2_with fail
      ((with_reducible refine (awake_any _ HP.out).mono ?_); rintro e w1 ⟨rfl, hb1⟩)
      have HB := Lib.hid hb1
      clear hb1
      go_wp2_with fail
      ((with_reducible refine (HTK.out _ (HP.out.below HB.out)).mono ?_); rintro e w2 ⟨v, he, hown, hb2⟩)
      have he' : e = .returned (.tuple #[v, .agg #[.int .i64 0, .int .i64 0], .int .i64 0]) := he
      clear he; subst he'
      obtain ⟨A, cap, hv1, ht1, hl1, hnc, hcap⟩ := own_tkin (L := M.map tkTd) (n := n) (by rw [← tkRow_td, ← HN.out]; exact hown)
      subst hv1
      replace HB := Lib.hid (below_then HB.out hb2)
      have HW0 := Lib.hid (ht1.below (below_alloc w2 (.cells #[.int .i64 0, .int .i64 0] 25)))
      replace HB := Lib.hid (below_then HB.out (below_alloc w2 (.cells #[.int .i64 0, .int .i64 0] 25)))
      clear hown hb2 ht1 HTK
      have HL1 := Lib.hid hl1; clear hl1
      have HMc := Lib.hid (show (w2.alloc (.cells #[.int .i64 0, .int .i64 0] 25)).cell? ⟨0, 0, none⟩ = some (.int .i64 ml) by rw [HB.out.cell (block_lt_of_cell HM.out)]; exact HM.out)
      go_wp2_with fail
      ((with_reducible refine (Tryd.strings_Split s ⟨#[10]⟩ ml _ (by omega) HMc.out (by decide)).mono ?_); rintro e w3 ⟨rfl, rfl⟩)
      have hls := lines_of s
      have hcl := count_len s
      rw [← hls, List.length_map] at hcl
      have hcle : Lib.countB s ⟨#[10]⟩ + 1 ≤ 401 := by
        have := lnp_len s.data.toList []; rw [← hls, List.length_map, len_byte] at this; omega
      generalize Lib.splitB ⟨#[10]⟩ 0 (Lib.countB s ⟨#[10]⟩) s = ls at *
      generalize Lib.countB s ⟨#[10]⟩ + 1 = nl at *
      have HLS := Lib.hid hls
      have HNL := Lib.hid hcl
      clear hls hcl
      have HLn := Lib.hid (LnIn.start (w2.alloc (.cells #[.int .i64 0, .int .i64 0] 25)) ls 9)
      have hbs := below_alloc (w2.alloc (.cells #[.int .i64 0, .int .i64 0] 25)) (.cells (ls.map Value.string).toArray 9)
      replace HW0 := Lib.hid (HW0.out.below hbs)
      replace HB := Lib.hid (below_then HB.out hbs)
      clear hbs HMc
      obtain ⟨bl, hbl⟩ : ∃ bl, bl = (w2.alloc (.cells #[.int .i64 0, .int .i64 0] 25)).heap.size := ⟨_, rfl⟩
      obtain ⟨W3, hW3⟩ : ∃ W3, W3 = (w2.alloc (.cells #[.int .i64 0, .int .i64 0] 25)).alloc (.cells (ls.map Value.string).toArray 9) := ⟨_, rfl⟩
      rw [← hbl, ← hW3]
      rw [← hbl, ← hW3] at HLn
      rw [← hW3] at HW0 HB
      clear hbl hW3
      have HLn2 := Lib.hid HLn.out.2
      have hbl2 := HLn.out.1
      obtain ⟨la, hla⟩ : ∃ la : Addr, la = ⟨bl, 0, none⟩ := ⟨_, rfl⟩
      have hlab : la.block < W3.heap.size := by rw [hla]; exact hbl2
      rw [← hla] at HLn2 ⊢
      clear hla hbl2 HLn
      go_wp2_with fail
      go_loopg [38] (n) (fun g i wr => ∃ k : Nat, k + g = n ∧ i = .int .i64 k ∧ Below W3.heap.size W3 wr)
      case atStart => exact ⟨0, by omega, rfl, Below.refl _ _⟩
      case round =>
        obtain ⟨k, hk, rfl, hB⟩ := hrel
        have HK := Lib.hid hk
        have HBr := Lib.hid hB
        have hle : k ≤ n := by omega
        clear hk hB
        by_cases hlt : k < n
        · have hkM : k < M.length := by rw [HN.out]; exact hlt
          obtain ⟨m, q, hm, e1, e2, hq, hln4, hpre⟩ := places_at s M HPLd.out h400 ls HLS.out k hkM
          have HPRE := Lib.hid hpre
          obtain ⟨hok, h5⟩ := HOKS.out k hkM
          have HOK := Lib.hid hok
          have hkL : k < (M.map tkTd).length := by rw [List.length_map]; exact hkM
          have HX0 := Lib.hid ((HW0.out.below HBr.out) k hkL)
          rw [List.getElem_map] at HX0
          have HLc := Lib.hid (show wr.cell? (la.add m) = some (.string ls[m]) by rw [HBr.out.cell (by unfold Addr.add; split <;> exact hlab)]; exact HLn2.out m hm)
          have HORk := Lib.hid (fun j (hj : j + 1 = k) => (show ∃ y : Td, (∃ ad, A = some ad ∧ (ad.add (j * 5)).block < wr.heap.size ∧ TdAt wr (ad.add (j * 5)) y) ∧ (y.l < (tkTd M[k]).l ∨ (y.l = (tkTd M[k]).l ∧ y.c < (tkTd M[k]).c)) by
            subst hj
            have hjL : j < (M.map tkTd).length := by rw [List.length_map]; omega
            have h1 := (HW0.out.below HBr.out) j hjL
            rw [List.getElem_map] at h1
            exact ⟨tkTd M[j], h1, ord_td M j hkM (HORD.out j hkM)⟩))
          obtain ⟨bb, hbb1, hbb2⟩ : ∃ bb : Bool, ((tkTd M[k]).k == 5) = bb ∧ ((k : Int) == (n : Int) - 1) = bb := by
            refine ⟨_, rfl, ?_⟩
            have h5' : ((tkTd M[k]).k = 5) ↔ (k : Int) = (n : Int) - 1 := by
              show ((M[k].1.k : Nat) : Int) = 5 ↔ _
              rw [← HN.out]
              constructor
              · intro h; have := h5.1 (by omega); omega
              · intro h; have := h5.2 (by omega); omega
            rw [Bool.eq_iff_iff, beq_iff_eq, beq_iff_eq]; exact h5'.symm
          obtain ⟨ad, rfl, hp, c0, c1, c2, c3, c4⟩ := HX0.out
          generalize tkTd M[k] = x at *
          have hmn : m < nl := by rw [HNL.out]; exact hm
          generalize ls[m] = ln at *
          clear hok h5 hpre hkM hkL HX0 hm
          have hu := ok_short x HOK.out
          have HV := Lib.hid (fun w => tvalid_any x.k x.n x.l x.c x.u w (by omega))
          rw [show validB x.k x.n x.u.data.toList = true from HOK.out] at HV
          obtain ⟨xk, xu, xn, xl, xc⟩ := x
          simp only at *
          subst e1
          subst e2
          go_wp2_with fail
          obtain ⟨W4, hW4⟩ : ∃ W4, W4 = wr.alloc (.cells #[.int .i64 xk, .string xu, .int .i64 xn, .int .i64 ((m : Int) + 1), .int .i64 ((q : Int) + 1)] 33) := ⟨_, rfl⟩
          rw [← hW4]
          have hb4 : Below wr.heap.size wr W4 := by rw [hW4]; exact below_alloc wr _
          have t0 : W4.cell? ⟨wr.heap.size, 0, none⟩ = some (.int .i64 xk) := by rw [hW4]; simp
          have t1 : W4.cell? ⟨wr.heap.size, 1, none⟩ = some (.string xu) := by rw [hW4]; simp
          have t2 : W4.cell? ⟨wr.heap.size, 2, none⟩ = some (.int .i64 xn) := by rw [hW4]; simp
          have t3 : W4.cell? ⟨wr.heap.size, 3, none⟩ = some (.int .i64 ((m : Int) + 1)) := by rw [hW4]; simp
          have t4 : W4.cell? ⟨wr.heap.size, 4, none⟩ = some (.int .i64 ((q : Int) + 1)) := by rw [hW4]; simp
          have tl : W4.cell? (la.add m) = some (.string ln) := by rw [hb4.cell (block_lt_of_cell HLc.out)]; exact HLc.out
          have HBs := Lib.hid (below_then HBr.out hb4)
          have HB4 := Lib.hid (And.intro hb4.size hb4)
          clear hW4 hb4 c0 c1 c2 c3 c4 HLc
          generalize wr.heap.size = tb at *
          have a0 := cell_regrown t0
          have a1 := cell_regrown t1
          have a2 := cell_regrown t2
          have a3 := cell_regrown t3
          have a4 := cell_regrown t4
          have al := cell_regrown tl
          have p1 : (1 : Int) ≤ (m : Int) + 1 := by omega
          have p2 : ((m : Int) + 1) ≤ (nl : Int) := by omega
          have p3 : (1 : Int) ≤ (q : Int) + 1 := by omega
          have p4 : ((q : Int) + 1) ≤ (ln.size : Int) + 1 := by omega
          have p5 : decide ((m : Int) + 1 < 1) = false := by simp; omega
          have p6 : decide ((nl : Int) < (m : Int) + 1) = false := by simp; omega
          have p7 : decide ((q : Int) + 1 < 1) = false := by simp; omega
          have p8 : decide ((ln.size : Int) + 1 < (q : Int) + 1) = false := by simp; omega
          have p9 : decide (ln.size < q) = false := by simp; omega
          have pm : (m : Int) < (nl : Int) := by omega
          have v1 : IntKind.i64.wrap (m : Int) = (m : Int) := IntWalk.i64_in _ (by omega)
          have v2 : IntKind.i64.wrap ((ln.size : Int) + 1) = (ln.size : Int) + 1 := IntWalk.i64_in _ (by omega)
          have v3 : IntKind.i64.wrap ((n : Int) - 1) = (n : Int) - 1 := IntWalk.i64_in _ (by omega)
          have v4 : IntKind.i64.wrap ((m : Int) + 1 - 1) = (m : Int) := by rw [Int.add_sub_cancel]; exact v1
          refine wp_region_quiet_below (by kernel_rfl) (by kernel_rfl) ?_
          repeat (quiet_step (exact Calls.regrown_of (HV.out _)))
          refine wpQuiet_nil ?_
          intro _ hw'
          obtain ⟨⟨dq, osq⟩, hw''⟩ := hw'
          subst hw''
          replace t0 := a0 dq osq
          replace t1 := a1 dq osq
          replace t2 := a2 dq osq
          replace t3 := a3 dq osq
          replace t4 := a4 dq osq
          replace tl := al dq osq
          have hbq := below_regrown W4 dq osq
          replace HB4 := Lib.hid (below_on HB4.out hbq)
          replace HBs := Lib.hid (below_then HBs.out hbq)
          clear hbq a0 a1 a2 a3 a4 al
          generalize Go.«Sort».grow (redrawn W4 dq) osq = W5 at *
          clear hbb1 hbb2 p1 p2 p3 p4 p5 p6 p7 p8 p9 v2 v3 HV
          have v5 : IntKind.i64.wrap (q : Int) = (q : Int) := IntWalk.i64_in _ (by omega)
          have v6 : IntKind.i64.wrap ((q : Int) + 1 - 1) = (q : Int) := by rw [Int.add_sub_cancel]; exact v5
          have hkc : k = 0 ∨ ∃ j, j + 1 = k := by
            cases k with
            | zero => exact .inl rfl
            | succ j => exact .inr ⟨j, rfl⟩
          rcases hkc with hk0 | ⟨j, hjk⟩
          · have q0 : decide ((0 : Int) < (k : Int)) = false := by simp; omega
            have q1 : decide (0 < k) = false := by simp; omega
            clear hk0
            go_wp2_with fail
            go_quiet (fail)
            have hbq : Below W5.heap.size W5 (W5.drewN nq) := below_drewN (Below.refl _ _) nq
            replace t0 := cell_kept hbq t0
            replace t1 := cell_kept hbq t1
            replace t2 := cell_kept hbq t2
            replace t3 := cell_kept hbq t3
            replace t4 := cell_kept hbq t4
            replace tl := cell_kept hbq tl
            replace HB4 := Lib.hid (below_on HB4.out hbq)
            replace HBs := Lib.hid (below_then HBs.out hbq)
            clear hbq
            generalize W5.drewN nq = W6 at *
            clear q0 q1
            go_wp2_with fail
            go_quiet (fail)
            have hbq : Below W6.heap.size W6 (W6.drewN nq) := below_drewN (Below.refl _ _) nq
            replace t0 := cell_kept hbq t0
            replace t1 := cell_kept hbq t1
            replace t2 := cell_kept hbq t2
            replace t3 := cell_kept hbq t3
            replace t4 := cell_kept hbq t4
            replace tl := cell_kept hbq tl
            replace HB4 := Lib.hid (below_on HB4.out hbq)
            replace HBs := Lib.hid (below_then HBs.out hbq)
            clear hbq
            generalize W6.drewN nq = W7 at *
            clear v1 v4 v5 v6
            by_cases x1 : xk = 1
            · have y1 : (xk == 1) = true := by rw [x1]; rfl
              have HH := Lib.hid (HPRE.out (.inl x1))
              clear x1
              go_wp2_with fail
              ((with_reducible refine (Tryd.strings_HasPrefix (ln.extract q ln.size) xu _).mono ?_); rintro e wn ⟨rfl, rfl⟩)
              rw [HH.out]
              go_wp2_with fail
              go_roundg (gk - 1)
              case measure => have := HK.out; omega
              case rel => exact ⟨k + 1, by have := HK.out; omega, by go_num, HBs.out⟩
            · have y1 : (xk == 1) = false := by simpa using x1
              clear x1
              by_cases x4 : xk = 4
              · have y4 : (xk == 4) = true := by rw [x4]; rfl
                have HH := Lib.hid (HPRE.out (.inr x4))
                clear x4
                go_wp2_with fail
                ((with_reducible refine (Tryd.strings_HasPrefix (ln.extract q ln.size) xu _).mono ?_); rintro e wn ⟨rfl, rfl⟩)
                rw [HH.out]
                go_wp2_with fail
                go_roundg (gk - 1)
                case measure => have := HK.out; omega
                case rel => exact ⟨k + 1, by have := HK.out; omega, by go_num, HBs.out⟩
              · have y4 : (xk == 4) = false := by simpa using x4
                clear x4
                go_wp2_with fail
                go_roundg (gk - 1)
                case measure => have := HK.out; omega
                case rel => exact ⟨k + 1, by have := HK.out; omega, by go_num, HBs.out⟩
          · obtain ⟨y, ⟨ad2, had, hjp, c0, c1, c2, c3, c4⟩, hord⟩ := HORk.out j hjk
            obtain rfl := Option.some.inj had
            obtain ⟨yk, yu, yn, yl, yc⟩ := y
            simp only at c0 c1 c2 c3 c4 hord
            have d3 : W5.cell? ⟨(ad.add (j * 5)).block, (ad.add (j * 5)).off + 3, none⟩ = some (.int .i64 yl) := (HB4.out.2.cell (p := ⟨(ad.add (j * 5)).block, (ad.add (j * 5)).off + 3, none⟩) hjp).trans c3
            have d4 : W5.cell? ⟨(ad.add (j * 5)).block, (ad.add (j * 5)).off + 3 + 1, none⟩ = some (.int .i64 yc) := (HB4.out.2.cell (p := ⟨(ad.add (j * 5)).block, (ad.add (j * 5)).off + 3 + 1, none⟩) hjp).trans c4
            have d5 : W5.cell? ⟨(ad.add (j * 5)).block, (ad.add (j * 5)).off + 4, none⟩ = some (.int .i64 yc) := d4
            have q0 : decide ((0 : Int) < (k : Int)) = true := by simp; omega
            have q1 : decide (0 < k) = true := by simp; omega
            have v7 : IntKind.i64.wrap ((k : Int) - 1) = (j : Int) := by rw [show (k : Int) - 1 = (j : Int) by omega]; exact IntWalk.i64_in _ (by omega)
            have hjn : (j : Int) < (n : Int) := by omega
            have hjn' : j < n := by omega
            clear c0 c1 c2 c3 c4 had
            rcases hord with ho | ⟨ho, ho2⟩
            · have r1 : decide ((m : Int) + 1 < yl) = false := by simp; omega
              have r2 : (((m : Int) + 1) == yl) = false := by simp; omega
              clear ho hjk
              go_wp2_with fail
              go_quiet (fail)
              have hbq : Below W5.heap.size W5 (W5.drewN nq) := below_drewN (Below.refl _ _) nq
              replace t0 := cell_kept hbq t0
              replace t1 := cell_kept hbq t1
              replace t2 := cell_kept hbq t2
              replace t3 := cell_kept hbq t3
              replace t4 := cell_kept hbq t4
              replace tl := cell_kept hbq tl
              replace HB4 := Lib.hid (below_on HB4.out hbq)
              replace HBs := Lib.hid (below_then HBs.out hbq)
              clear hbq
              generalize W5.drewN nq = W6 at *
              clear q0 q1 v7 r1 r2 hjn d3 d4 d5
              go_wp2_with fail
              go_quiet (fail)
              have hbq : Below W6.heap.size W6 (W6.drewN nq) := below_drewN (Below.refl _ _) nq
              replace t0 := cell_kept hbq t0
              replace t1 := cell_kept hbq t1
              replace t2 := cell_kept hbq t2
              replace t3 := cell_kept hbq t3
              replace t4 := cell_kept hbq t4
              replace tl := cell_kept hbq tl
              replace HB4 := Lib.hid (below_on HB4.out hbq)
              replace HBs := Lib.hid (below_then HBs.out hbq)
              clear hbq
              generalize W6.drewN nq = W7 at *
              clear v1 v4 v5 v6
              by_cases x1 : xk = 1
              · have y1 : (xk == 1) = true := by rw [x1]; rfl
                have HH := Lib.hid (HPRE.out (.inl x1))
                clear x1
                go_wp2_with fail
                ((with_reducible refine (Tryd.strings_HasPrefix (ln.extract q ln.size) xu _).mono ?_); rintro e wn ⟨rfl, rfl⟩)
                rw [HH.out]
                go_wp2_with fail
                go_roundg (gk - 1)
                case measure => have := HK.out; omega
                case rel => exact ⟨k + 1, by have := HK.out; omega, by go_num, HBs.out⟩
              · have y1 : (xk == 1) = false := by simpa using x1
                clear x1
                by_cases x4 : xk = 4
                · have y4 : (xk == 4) = true := by rw [x4]; rfl
                  have HH := Lib.hid (HPRE.out (.inr x4))
                  clear x4
                  go_wp2_with fail
                  ((with_reducible refine (Tryd.strings_HasPrefix (ln.extract q ln.size) xu _).mono ?_); rintro e wn ⟨rfl, rfl⟩)
                  rw [HH.out]
                  go_wp2_with fail
                  go_roundg (gk - 1)
                  case measure => have := HK.out; omega
                  case rel => exact ⟨k + 1, by have := HK.out; omega, by go_num, HBs.out⟩
                · have y4 : (xk == 4) = false := by simpa using x4
                  clear x4
                  go_wp2_with fail
                  go_roundg (gk - 1)
                  case measure => have := HK.out; omega
                  case rel => exact ⟨k + 1, by have := HK.out; omega, by go_num, HBs.out⟩
            · have r1 : decide ((m : Int) + 1 < yl) = false := by simp; omega
              have r2 : (((m : Int) + 1) == yl) = true := by simp; omega
              have r3 : decide ((q : Int) + 1 ≤ yc) = false := by simp; omega
              clear ho ho2 hjk
              go_wp2_with fail
              go_quiet (fail)
              have hbq : Below W5.heap.size W5 (W5.drewN nq) := below_drewN (Below.refl _ _) nq
              replace t0 := cell_kept hbq t0
              replace t1 := cell_kept hbq t1
              replace t2 := cell_kept hbq t2
              replace t3 := cell_kept hbq t3
              replace t4 := cell_kept hbq t4
              replace tl := cell_kept hbq tl
              replace HB4 := Lib.hid (below_on HB4.out hbq)
              replace HBs := Lib.hid (below_then HBs.out hbq)
              clear hbq
              generalize W5.drewN nq = W6 at *
              clear q0 q1 v7 r1 r2 r3 hjn d3 d4 d5
              go_wp2_with fail
              go_quiet (fail)
              have hbq : Below W6.heap.size W6 (W6.drewN nq) := below_drewN (Below.refl _ _) nq
              replace t0 := cell_kept hbq t0
              replace t1 := cell_kept hbq t1
              replace t2 := cell_kept hbq t2
              replace t3 := cell_kept hbq t3
              replace t4 := cell_kept hbq t4
              replace tl := cell_kept hbq tl
              replace HB4 := Lib.hid (below_on HB4.out hbq)
              replace HBs := Lib.hid (below_then HBs.out hbq)
              clear hbq
              generalize W6.drewN nq = W7 at *
              clear v1 v4 v5 v6
              by_cases x1 : xk = 1
              · have y1 : (xk == 1) = true := by rw [x1]; rfl
                have HH := Lib.hid (HPRE.out (.inl x1))
                clear x1
                go_wp2_with fail
                ((with_reducible refine (Tryd.strings_HasPrefix (ln.extract q ln.size) xu _).mono ?_); rintro e wn ⟨rfl, rfl⟩)
                rw [HH.out]
                go_wp2_with fail
                go_roundg (gk - 1)
                case measure => have := HK.out; omega
                case rel => exact ⟨k + 1, by have := HK.out; omega, by go_num, HBs.out⟩
              · have y1 : (xk == 1) = false := by simpa using x1
                clear x1
                by_cases x4 : xk = 4
                · have y4 : (xk == 4) = true := by rw [x4]; rfl
                  have HH := Lib.hid (HPRE.out (.inr x4))
                  clear x4
                  go_wp2_with fail
                  ((with_reducible refine (Tryd.strings_HasPrefix (ln.extract q ln.size) xu _).mono ?_); rintro e wn ⟨rfl, rfl⟩)
                  rw [HH.out]
                  go_wp2_with fail
                  go_roundg (gk - 1)
                  case measure => have := HK.out; omega
                  case rel => exact ⟨k + 1, by have := HK.out; omega, by go_num, HBs.out⟩
                · have y4 : (xk == 4) = false := by simpa using x4
                  clear x4
                  go_wp2_with fail
                  go_roundg (gk - 1)
                  case measure => have := HK.out; omega
                  case rel => exact ⟨k + 1, by have := HK.out; omega, by go_num, HBs.out⟩
        · obtain rfl : k = n := by omega
          have HTKr := Lib.hid (HW0.out.below HBr.out)
          have HTbr := Lib.hid ((HT.out.below HB.out).below HBr.out)
          have HPr := Lib.hid ((HP.out.below HB.out).below HBr.out)
          have HBw := Lib.hid (below_then HB.out HBr.out)
          have HJ := Lib.hid (tjoin_any A k cap (M.map tkTd) wr HTKr.out HTbr.out (fun t ht => by have := ok_short t (joinB_all _ HJB.out t ht); omega) HL1.out (by omega) hnc hcap (fun _ => by have := HJL.out; omega))
          rw [joinRet_yes HJB.out] at HJ
          obtain ⟨tx, htx⟩ : ∃ t : ByteArray, t = ⟨(joinL (M.map tkTd)).toArray⟩ := ⟨_, rfl⟩
          rw [← htx] at HJ
          have HT3 := Lib.hid (fun w hp => tokens_any tx w hp)
          rw [show tx.data.toList = joinL (M.map tkTd) by rw [htx], HT2.out] at HT3
          obtain ⟨hMN, hlk⟩ := like_of M2 (M.map tkTd) HM2.out (fun t ht => ok_nonneg t (joinB_all _ HJB.out t ht))
          have HLK := Lib.hid hlk; clear hlk htx HT2 HM2 HJB HJL HOKS HORD HPLd HW0 HK
          have hMN2 : M2.length = k := by rw [hMN]; exact HL1.out
          go_wp2_with fail
          ((with_reducible refine HJ.out.mono ?_); rintro e w4 ⟨rfl, hb4⟩)
          have HW2 := Lib.hid (HTKr.out.below hb4)
          replace HBw := Lib.hid (below_then HBw.out hb4)
          replace HPr := Lib.hid (HPr.out.below hb4)
          clear hb4 HJ HTKr HTbr
          go_wp2_with fail
          ((with_reducible refine (HT3.out _ HPr.out).mono ?_); rintro e w6 ⟨v6, he, hown6, hb6⟩)
          have he' : e = .returned (.tuple #[v6, .agg #[.int .i64 0, .int .i64 0], .int .i64 0]) := he
          clear he; subst he'
          obtain ⟨A1, cp1, hv1, ht1, hl1, _, _⟩ := own_tkin (L := M2.map tkTd) (n := M2.length) (by rw [← tkRow_td]; exact hown6)
          rw [hMN2] at hv1 hl1
          subst hv1
          have HW1 := Lib.hid (ht1.below (below_alloc w6 (.cells #[.int .i64 0, .int .i64 0] 25)))
          have HW3 := Lib.hid ((HW2.out.below hb6).below (below_alloc w6 (.cells #[.int .i64 0, .int .i64 0] 25)))
          replace HBw := Lib.hid (below_then (below_then HBw.out hb6) (below_alloc w6 (.cells #[.int .i64 0, .int .i64 0] 25)))
          have HL2 := Lib.hid hl1
          clear ht1 hown6 hb6 HW2 hl1 hMN hMN2
          go_wp2_with fail
          ((with_reducible refine (same_any A1 A k cp1 cap (M2.map tkTd) (M.map tkTd) _ HW1.out HW3.out HL2.out HL1.out (by omega) HLK.out).mono ?_); rintro e w8 ⟨rfl, hb8⟩)
          go_wp2_with fail
          go_ret
          exact ⟨rfl, below_then HBw.out hb8⟩
    · rw [hX] at HTK
      have q0 : ((e : Int) != 0) = true := by simp; omega
      clear hX he
      go_enter Tryd.func9, Tryd.ntmps9
      go_wp2_with fail
      ((with_reducible refine (awake_any _ HP.out).mono ?_); rintro e1 w1 ⟨rfl, hb1⟩)
      have HB := Lib.hid hb1
      clear hb1
      go_wp2_with fail
      ((with_reducible refine (HTK.out _ (HP.out.below HB.out)).mono ?_); rintro e1 w2 ⟨v, he, hown, hb2⟩)
      have he' : e1 = .returned (.tuple #[v, .agg #[.int .i64 (p1 : Int), .int .i64 (p2 : Int)], .int .i64 (e : Int)]) := he
      clear he; subst he'
      obtain ⟨A, cap, hv1, ht1, hl1, hnc, hcap⟩ := own_tkin (L := []) (n := 0) hown
      subst hv1
      replace HB := Lib.hid (below_then HB.out hb2)
      replace HB := Lib.hid (below_then HB.out (below_alloc w2 (.cells #[.int .i64 (p1 : Int), .int .i64 (p2 : Int)] 25)))
      clear hown hb2 ht1 HTK hl1
      go_wp2_with fail
      go_ret
      exact ⟨rfl, HB.out⟩
  · have q1 : (400 : Int) < (s.size : Int) := by omega
    go_enter Tryd.func9, Tryd.ntmps9
    go_wp2_with fail
    ((with_reducible refine (awake_any _ HP.out).mono ?_); rintro e w1 ⟨rfl, hb1⟩)
    have HB := Lib.hid hb1
    have HP1 := Lib.hid (HP.out.below hb1)
    clear hb1
    go_wp2_with fail
    ((with_reducible refine (awake_any _ HP1.out).mono ?_); rintro e w2 ⟨rfl, hb2⟩)
    go_wp2_with fail
    go_ret
    exact ⟨rfl, below_then HB.out hb2⟩
end Go.Proofs.YtlocbindafdmhaaDoor
