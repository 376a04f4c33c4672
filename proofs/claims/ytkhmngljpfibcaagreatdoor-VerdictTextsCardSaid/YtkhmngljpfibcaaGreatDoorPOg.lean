/- Text of reference 29: what a call returns. -/
import Derived.Test.YtkhmngljpfibcaaGreatDoorPUu
import Derived.Test.YtkhmngljpfibcaaGreatDoorPOf
namespace Go.Proofs.YtkhmngljpfibcaaGreatDoor
set_option maxRecDepth 100000
set_option maxHeartbeats 12800000
open Go.Lib (hid)
open Go.RowKit

structure TxN (cn : Int) (R P : List Int) (K : List (List Int)) (V : List Mv) (S X : List (List Int)) : Prop where
 cn : -9223372036854775808 ≤ cn ∧ cn ≤ 9223372036854775807
 r : i64s R ∧ R.length ≤ 3000
 p : i64s P ∧ P.length ≤ 3000
 k : K.length ≤ 3000 ∧ ∀ l ∈ K, i64s l ∧ l.length ≤ 3000
 v : V.length ≤ 3000 ∧ ∀ m ∈ V, mv64 m
 s : S.length ≤ 3000 ∧ ∀ l ∈ S, i64s l ∧ l.length ≤ 3000
 x : X.length ≤ 3000 ∧ ∀ l ∈ X, i64s l ∧ l.length ≤ 3000
theorem TxM.n {cn : Int} {R P : List Int} {K : List (List Int)} {V : List Mv} {S X : List (List Int)} (h : TxM cn R P K V S X) : TxN cn R P K V S X :=
 ⟨h.cn, ⟨h.r.1, Nat.le_trans h.r.2 (by decide)⟩, ⟨h.p.1, Nat.le_trans h.p.2 (by decide)⟩, ⟨Nat.le_trans h.k.1 (by decide), fun l hl => ⟨(h.k.2 l hl).1, Nat.le_trans (h.k.2 l hl).2 (by decide)⟩⟩, ⟨Nat.le_trans h.v.1 (by decide), h.v.2⟩, ⟨Nat.le_trans h.s.1 (by decide), fun l hl => ⟨(h.s.2 l hl).1, Nat.le_trans (h.s.2 l hl).2 (by decide)⟩⟩, ⟨Nat.le_trans h.x.1 (by decide), fun l hl => ⟨(h.x.2 l hl).1, Nat.le_trans (h.x.2 l hl).2 (by decide)⟩⟩⟩
theorem ns_lit {w0 w : World} (hb : Below w0.heap.size w0 w) (L : List Int) (h : L.length ≤ 1000000) (cs : Array Value) (hc : cs = (L.map (Value.int .i64)).toArray) : NS w0 (w.alloc (.cells cs 3)) (.slice (some ⟨w.heap.size, 0, none⟩) L.length L.length) L := by
 subst hc;have ho := World.ownsRow_lit (base := w0.heap.size) (e := 3) (size := 1) w (L.map (Value.int .i64)).toArray L.length hb.size (by unfold maxLen; omega) (by simp);exact ⟨by simpa using ho, hb.alloc hb.size _⟩
theorem mvs_snoc (V : List Mv) (k : Nat) (h : k < V.length) : (V.take (k + 1)).map mvL = (V.take k).map mvL ++ [[V[k].f, V[k].t, V[k].s]] := by
 rw [List.take_succ_eq_append_getElem h, List.map_append]; rfl
theorem any_mvL (V : List Mv) : V.any (fun m => (mvL m).any bigI) = anyB (V.map mvL) := by
 unfold anyB; rw [List.any_map]; rfl
theorem moves_map (V : List Mv) : movesL V = linesL (⟨#[109, 111, 118, 101]⟩ : ByteArray).data.toList (V.map mvL) := by
 unfold movesL linesL; rw [List.flatMap_map]; rfl
theorem bytes_len {y : ByteArray} {l : List UInt8} (h : y.data.toList = l) : y.size = l.length := by rw [← h, len_byte]
theorem TxPo.arg {cl cn : Int} {R P : List Int} {K : List (List Int)} {V : List Mv} {S X : List (List Int)} {w w' : World} (h : cl < 1 ∨ 10 < cl) (hb : Below w.heap.size w w') : TxPo cl cn R P K V S X w (.returned (.tuple #[.string ⟨#[]⟩, .int .i64 1])) w' := by
 unfold TxPo; rw [if_pos h]; exact ⟨rfl, hb⟩
theorem TxPo.bad {i : Nat} (hi : i < 10) {cn : Int} {R P : List Int} {K : List (List Int)} {V : List Mv} {S X : List (List Int)} {w w' : World} (h : badT cn R P K V S X = true) (hb : Below w.heap.size w w') : TxPo ((i : Int) + 1) cn R P K V S X w (.returned (.tuple #[.string ⟨#[]⟩, .int .i64 1])) w' := by
 unfold TxPo; rw [if_neg (by omega), if_pos h]; exact ⟨rfl, hb⟩
theorem TxPo.full {i : Nat} (hi : i < 10) {cn : Int} {R P : List Int} {K : List (List Int)} {V : List Mv} {S X : List (List Int)} {w w' : World} (h : badT cn R P K V S X = false) (hl : 262144 < (textL i cn R P K V S X).length) (hb : Below w.heap.size w w') : TxPo ((i : Int) + 1) cn R P K V S X w (.returned (.tuple #[.string ⟨#[]⟩, .int .i64 5])) w' := by
 unfold TxPo; rw [if_neg (by omega), h, if_neg (by decide), show ((i : Int) + 1 - 1).toNat = i by omega, if_pos hl]; exact ⟨rfl, hb⟩
theorem TxPo.ok {i : Nat} (hi : i < 10) {cn : Int} {R P : List Int} {K : List (List Int)} {V : List Mv} {S X : List (List Int)} {w w' : World} {z : ByteArray} (h : badT cn R P K V S X = false) (hz : z.data.toList = textL i cn R P K V S X) (hl : ¬ 262144 < z.size) (hb : Below w.heap.size w w') : TxPo ((i : Int) + 1) cn R P K V S X w (.returned (.tuple #[.string z, .int .i64 0])) w' := by
 have e := bytes_len hz;unfold TxPo; rw [if_neg (by omega), h, if_neg (by decide), show ((i : Int) + 1 - 1).toNat = i by omega, if_neg (by omega), bytes_of hz]; exact ⟨rfl, hb⟩
theorem rtext29_in (i : Nat) (hi : i < 10) (cn : Int) (Ar : Option Addr) (nr cr : Nat) (R : List Int) (Ap : Option Addr) (np cp : Nat) (P : List Int) (Ak : Option Addr) (nk ck : Nat) (K : List (List Int)) (Av : Option Addr) (nv cv : Nat) (V : List Mv) (As : Option Addr) (ns cs : Nat) (S : List (List Int)) (Aw : Option Addr) (nw cw : Nat) (X : List (List Int)) (w : World) (hC : CfM w Ar nr R Ap np P Ak nk K Av nv V As ns S Aw nw X) (hx : TxN cn R P K V S X) :
 Calls Tryz.prog 44 #[.agg #[.int .i64 ((i : Int) + 1), .int .i64 cn, .slice Ar nr cr, .slice Ap np cp, .slice Ak nk ck, .slice Av nv cv, .slice As ns cs, .slice Aw nw cw]] w (TxPo ((i : Int) + 1) cn R P K V S X w) := by
 have HB0 := hid (below_alloc w (.cells #[.int .i64 ((i : Int) + 1), .int .i64 cn, .slice Ar nr cr, .slice Ap np cp, .slice Ak nk ck, .slice Av nv cv, .slice As ns cs, .slice Aw nw cw] 31));have HCb0 := hid (show CtB _ w.heap.size #[.int .i64 ((i : Int) + 1), .int .i64 cn, .slice Ar nr cr, .slice Ap np cp, .slice Ak nk ck, .slice Av nv cv, .slice As ns cs, .slice Aw nw cw] from heap_alloc_new w _);have HC0 := hid (hC.below HB0.out);have HTx := hid hx;have HI10 := hid hi;have HWd := hid (fun w => rword29_any i hi w);have hcb0 : (w.alloc (.cells #[.int .i64 ((i : Int) + 1), .int .i64 cn, .slice Ar nr cr, .slice Ap np cp, .slice Ak nk ck, .slice Av nv cv, .slice As ns cs, .slice Aw nw cw] 31)).heap.size = w.heap.size + 1 := by simp
 have HHs := hid hcb0;obtain ⟨i1, hj, hz0, hz1, hz2⟩ := info_parts rowInfo2;have HI := hid (And.intro hj (And.intro hz0 (And.intro hz1 hz2)));have hws := wordS_len i;have q1 : decide ((i : Int) + 1 < 1) = false := by simp; omega
 have q2 : decide (10 < (i : Int) + 1) = false := by simp; omega
 have hi1 : (i : Int) + 1 ≤ 10 := by omega
 have hi0 : (0 : Int) ≤ (i : Int) := by omega
 clear hC hx hi hj hz0 hz1 hz2 hcb0;go_enter Tryz.func44, Tryz.ntmps44;go_wp2_with fail;clear q1 q2;generalize w.alloc (.cells #[.int .i64 ((i : Int) + 1), .int .i64 cn, .slice Ar nr cr, .slice Ap np cp, .slice Ak nk ck, .slice Av nv cv, .slice As ns cs, .slice Aw nw cw] 31) = w0 at *;have HLow := hid (show w.heap.size < w0.heap.size by have := HHs.out; omega);go_loopg [4, 5] (nv) (fun g vv iv wr => ∃ (k : Nat) (v : Value), k + g = nv ∧ iv = .int .i64 (k : Int) ∧ vv = v ∧ OLL w0 wr v ((V.take k).map mvL));case atStart => exact ⟨0, _, by omega, rfl, rfl, OLL.start (Below.refl _ _)⟩
 case round =>
  obtain ⟨k, v, hk, rfl, rfl, hO⟩ := hrel;obtain ⟨wa, rfl⟩ : ∃ wa, wa = wr := ⟨_, rfl⟩;have HK := hid hk;have HO := hid hO;have HBw := hid hO.bel;have hle : k ≤ nv := by omega
  clear hk hO;obtain ⟨d0, d1, d2, d3, d4, d5, d6, d7⟩ := (HCb0.out.below HBw.out).cells;by_cases hlt : k < nv
  · have hlt' : k < V.length := by rw [HC0.out.vl]; exact hlt
    have hnvb := HC0.out.vb;have hv1 := HTx.out.v.1;have hvl := HC0.out.vl;have hk9 : k ≤ 3000 := by omega
    clear hv1 hvl;obtain ⟨av, rfl, hpv, m0', m1', m2'⟩ := mv_at HC0.out.v hlt';have m0 := cell_stays HBw.out m0';have m1 := cell_stays HBw.out m1';have m2 := cell_stays HBw.out m2';have HPv := hid hpv;have HE := hid (mvs_snoc V k hlt');generalize V[k].f = xf at *;generalize V[k].t = xt at *;generalize V[k].s = xs at *;have hkl : ((V.take k).map mvL).length = k := by rw [List.length_map, List.length_take]; omega
    have HKl := hid hkl;generalize (V.take k).map mvL = LL at *;clear m0' m1' m2' hpv hkl hlt' d0 d1 d2 d3 d4 d6 d7;go_wp2_with fail;have hbd : Below wa.heap.size wa wa.drew := (Below.refl _ _).drew;have HO1 := hid (HO.out.below hbd);have s0 := cell_stays hbd d5;have s1 := cell_stays hbd m0;have s2 := cell_stays hbd m1;have s3 := cell_stays hbd m2;have hS0 := And.intro s0 (And.intro s1 (And.intro s2 s3));clear hbd s0 s1 s2 s3 d5 m0 m1 m2 HO;refine rh4 hS0 (fun hHeld => ?_);clear hS0;generalize wa.drew = wd at *;refine tkH 0 ?_;(try go_simp);refine tkH 1 ?_;(try go_simp);refine tkH 2 ?_;(try go_simp);refine tkH 3 ?_;(try go_simp);refine tkH 4 ?_;(try go_simp);refine tkH 5 ?_;(try go_simp);refine tkH 6 ?_;(try go_simp);refine tkH 7 ?_;(try go_simp);refine tkH 8 ?_;(try go_simp);refine tkH 9 ?_;(try go_simp);refine tkH 10 ?_;(try go_simp);refine tkH 11 ?_;(try go_simp);refine tkH 12 ?_;(try go_simp);refine tkH 13 ?_;(try go_simp);refine tkH 14 ?_;(try go_simp);refine tkH 15 ?_;(try go_simp);refine tkH 16 ?_;(try go_simp);refine tkH 17 ?_;(try go_simp);refine tkH 18 ?_;(try go_simp);refine tkR 19 (fun K9 hK => ?_);go_simp;have hS9 := hHeld;refine hK.out _ _ ⟨cell_stays (below_alloc _ _) hS9.1, cell_stays (below_alloc _ _) hS9.2.1, cell_stays (below_alloc _ _) hS9.2.2.1, cell_stays (below_alloc _ _) hS9.2.2.2⟩ (fun hHeld => ?_);clear hK K9 hS9;try go_simp
    have HX := hid (ns_lit HO1.out.bel [xf, xt, xs] (by show 3 ≤ 1000000; decide) #[.int .i64 xf, .int .i64 xt, .int .i64 xs] rfl);have HO2 := hid (HO1.out.below (below_alloc wd (.cells #[.int .i64 xf, .int .i64 xt, .int .i64 xs] 3)));clear HO1;generalize hxb : wd.heap.size = xb at *;generalize wd.alloc _ = w8 at *;clear hxb;refine tkR 20 (fun K9 hK => ?_);go_simp;have hS9 := hHeld;refine hK.out _ _ ⟨cell_stays (below_alloc _ _) hS9.1, cell_stays (below_alloc _ _) hS9.2.1, cell_stays (below_alloc _ _) hS9.2.2.1, cell_stays (below_alloc _ _) hS9.2.2.2⟩ (fun hHeld => ?_);clear hK K9 hS9;try go_simp
    obtain ⟨SL, o1, o2, o3, o4⟩ := HO2.out;rw [HKl.out] at o1;obtain ⟨Al, cl0, rfl, _⟩ := row_slice o1;have HOw := hid o1;have HSl := hid (And.intro o2 (And.intro o3 o4));clear o1 o2 o3 o4 HO2;have hS9 := hHeld;refine tkR 21 (fun K9 hK => ?_);refine step_append_own rfl _ _ 28 rfl w0.heap.size 27 i1 (.slice none 0 0) 1 24 Tryz.underlying28 HI.out.1 HI.out.2.1 HI.out.2.2.1 HI.out.2.2.2 rfl (by decide) (.slice Al k cl0) k SL rfl (HOw.out.alloc _) ⟨w8.heap.size, 0, none⟩ 1 1 [.slice (some ⟨xb, 0, none⟩) 3 3] rfl rfl ?c1 ?c2 ?c3 ?c4 ?c5 ?_;case c1 => exact news_blk (heap_alloc_new w8 (.cells #[.slice (some ⟨xb, 0, none⟩) 3 3] 27))
    case c2 => intro u hu; simp at hu; subst hu; rfl
    case c3 => unfold maxLen; omega
    case c4 => omega
    case c5 => have := HSl.out.2.2.size; simp; omega
    intro v5 w9 hown9 hgrow9;have hlow : ∀ b : Nat, b < w0.heap.size → some b ≠ (Value.slice Al k cl0).ownBlock := fun b hb e => by have := (HOw.out.lt b e.symm).1; omega
    have HO9 := hid (OLL.push (by rw [HKl.out]; exact HOw.out) HSl.out.1 HSl.out.2.1 HSl.out.2.2 HX.out (by rw [HKl.out]; exact hown9) hgrow9);have y0 := hgrow9.cell hS9.1 (hlow _ HLow.out);have y1 := hgrow9.cell hS9.2.1 (hlow _ HPv.out);have y2 := hgrow9.cell hS9.2.2.1 (hlow _ HPv.out);have y3 := hgrow9.cell hS9.2.2.2 (hlow _ HPv.out);refine hK.out _ _ ⟨y0, y1, y2, y3⟩ (fun hHeld => ?_);clear hK K9 hS9 y0 y1 y2 y3 hlow hown9 hgrow9 HOw HSl HX;try go_simp
    refine tkH 22 ?_;(try go_simp);refine wpAnyH_done (by kernel_rfl) ?_ _;clear hHeld;rw [← HE.out] at HO9;go_wp2_with fail;go_roundg (gk - 1);case measure => have := HK.out; omega
    case rel => exact ⟨k + 1, _, by have := HK.out; omega, by go_num, rfl, HO9.out⟩
  · have HV := hid (show (V.take k).map mvL = V.map mvL by rw [List.take_of_length_le (by rw [HC0.out.vl]; omega)]);rw [HV.out] at HO;obtain ⟨Am, cm, rfl, hLm, _, _⟩ := HO.out.lin;have HLm := hid hLm;have HMl := hid (show (V.map mvL).length = nv by rw [List.length_map]; exact HC0.out.vl);have hml := HMl.out;rw [hml];have HM3 := hid (show ∀ l ∈ V.map mvL, i64s l ∧ l.length ≤ 3 from fun l hl => by
     obtain ⟨m, hm, rfl⟩ := List.mem_map.1 hl;exact ⟨HTx.out.v.2 m hm, Nat.le_refl _⟩)
    have H64 := hid (show i64s [cn] by intro x hx; simp at hx; rw [hx]; exact HTx.out.cn);clear hLm hml;have HAl := hid (below_alloc wa (.cells #[.int .i64 cn] 3));have HBa := hid HAl.out;have HBl := hid (HBw.out.trans (HAl.out.mono HBw.out.size));obtain ⟨wl, hwl⟩ : ∃ wl, wl = wa.alloc (.cells #[.int .i64 cn] 3) := ⟨_, rfl⟩;rw [← hwl] at HAl HBa HBl;have HL1 := hid (rline29_any (⟨#[110, 117, 109, 98, 101, 114]⟩ : ByteArray) (some ⟨wa.heap.size, 0, none⟩) 1 1 [cn] wl (by rw [hwl]; exact lit_ints wa [cn] (by show 1 ≤ 1000000; decide)) rfl H64.out (by show 6 + 22 * 1 ≤ _; omega));have hb1 : (lineL (⟨#[110, 117, 109, 98, 101, 114]⟩ : ByteArray).data.toList [cn]).length ≤ 100 := by
     have h1 := lineL_len (⟨#[110, 117, 109, 98, 101, 114]⟩ : ByteArray).data.toList [cn] H64.out;have h2 : (⟨#[110, 117, 109, 98, 101, 114]⟩ : ByteArray).data.toList.length = 6 := rfl;have h3 := (show [cn].length ≤ 1 from Nat.le_refl _);omega
    obtain ⟨q1, hq1⟩ : ∃ q, q = [cn].any bigI := ⟨_, rfl⟩;obtain ⟨t1, ht1⟩ : ∃ t, t = lineL (⟨#[110, 117, 109, 98, 101, 114]⟩ : ByteArray).data.toList [cn] := ⟨_, rfl⟩;rw [← hq1, ← ht1] at HL1;rw [← ht1] at hb1;have HL2 := hid (rline29_any (⟨#[114, 117, 110]⟩ : ByteArray) Ar nr cr R wl (HC0.out.r.below HBl.out) HC0.out.rl HTx.out.r.1 (by have := HTx.out.r.2; have := HC0.out.rl; show 3 + _ ≤ _; omega));have hb2 : (lineL (⟨#[114, 117, 110]⟩ : ByteArray).data.toList R).length ≤ 70000 := by
     have h1 := lineL_len (⟨#[114, 117, 110]⟩ : ByteArray).data.toList R HTx.out.r.1;have h2 : (⟨#[114, 117, 110]⟩ : ByteArray).data.toList.length = 3 := rfl;have h3 := HTx.out.r.2;omega
    obtain ⟨q2, hq2⟩ : ∃ q, q = R.any bigI := ⟨_, rfl⟩;obtain ⟨t2, ht2⟩ : ∃ t, t = lineL (⟨#[114, 117, 110]⟩ : ByteArray).data.toList R := ⟨_, rfl⟩;rw [← hq2, ← ht2] at HL2;rw [← ht2] at hb2;have HL3 := hid (rline29_any (⟨#[112, 117, 109, 112]⟩ : ByteArray) Ap np cp P wl (HC0.out.p.below HBl.out) HC0.out.pl HTx.out.p.1 (by have := HTx.out.p.2; have := HC0.out.pl; show 4 + _ ≤ _; omega));have hb3 : (lineL (⟨#[112, 117, 109, 112]⟩ : ByteArray).data.toList P).length ≤ 70000 := by
     have h1 := lineL_len (⟨#[112, 117, 109, 112]⟩ : ByteArray).data.toList P HTx.out.p.1;have h2 : (⟨#[112, 117, 109, 112]⟩ : ByteArray).data.toList.length = 4 := rfl;have h3 := HTx.out.p.2;omega
    obtain ⟨q3, hq3⟩ : ∃ q, q = P.any bigI := ⟨_, rfl⟩;obtain ⟨t3, ht3⟩ : ∃ t, t = lineL (⟨#[112, 117, 109, 112]⟩ : ByteArray).data.toList P := ⟨_, rfl⟩;rw [← hq3, ← ht3] at HL3;rw [← ht3] at hb3;have HL4 := hid (rlines29_any 3000 (⟨#[109, 97, 114, 107]⟩ : ByteArray) Ak nk ck K wl (HC0.out.k.below HBl.out) HC0.out.kl (by have := HTx.out.k.1; have := HC0.out.kl; omega) (Nat.le_refl _) HTx.out.k.2 (by decide));have hb4 : (linesL (⟨#[109, 97, 114, 107]⟩ : ByteArray).data.toList K).length ≤ 202000000 := by
     have h1 := lines_len (⟨#[109, 97, 114, 107]⟩ : ByteArray).data.toList 3000 K HTx.out.k.2;have h2 : (⟨#[109, 97, 114, 107]⟩ : ByteArray).data.toList.length = 4 := rfl;have h3 := HTx.out.k.1;have h4 : K.length * ((⟨#[109, 97, 114, 107]⟩ : ByteArray).data.toList.length + 22 * 3000 + 1) ≤ 3000 * 67001 := Nat.mul_le_mul h3 (by rw [h2]; decide);omega
    obtain ⟨q4, hq4⟩ : ∃ q, q = anyB K := ⟨_, rfl⟩;obtain ⟨t4, ht4⟩ : ∃ t, t = linesL (⟨#[109, 97, 114, 107]⟩ : ByteArray).data.toList K := ⟨_, rfl⟩;rw [← hq4, ← ht4] at HL4;rw [← ht4] at hb4;have HL5 := hid (rlines29_any 3 (⟨#[109, 111, 118, 101]⟩ : ByteArray) Am nv cm (V.map mvL) wl (HLm.out.below HBa.out) HMl.out (by have := HTx.out.v.1; have := HC0.out.vl; omega) (by decide) HM3.out (by decide));have hb5 : (linesL (⟨#[109, 111, 118, 101]⟩ : ByteArray).data.toList (V.map mvL)).length ≤ 202000000 := by
     have h1 := lines_len (⟨#[109, 111, 118, 101]⟩ : ByteArray).data.toList 3 (V.map mvL) HM3.out;have h2 : (⟨#[109, 111, 118, 101]⟩ : ByteArray).data.toList.length = 4 := rfl;have h3 := (show (V.map mvL).length ≤ 3000 by rw [List.length_map]; exact HTx.out.v.1);have h4 : (V.map mvL).length * ((⟨#[109, 111, 118, 101]⟩ : ByteArray).data.toList.length + 22 * 3 + 1) ≤ 3000 * 67001 := Nat.mul_le_mul h3 (by rw [h2]; decide);omega
    obtain ⟨q5, hq5⟩ : ∃ q, q = anyB (V.map mvL) := ⟨_, rfl⟩;obtain ⟨t5, ht5⟩ : ∃ t, t = linesL (⟨#[109, 111, 118, 101]⟩ : ByteArray).data.toList (V.map mvL) := ⟨_, rfl⟩;rw [← hq5, ← ht5] at HL5;rw [← ht5] at hb5;have HL6 := hid (rlines29_any 3000 (⟨#[115, 101, 116]⟩ : ByteArray) As ns cs S wl (HC0.out.s.below HBl.out) HC0.out.sl (by have := HTx.out.s.1; have := HC0.out.sl; omega) (Nat.le_refl _) HTx.out.s.2 (by decide));have hb6 : (linesL (⟨#[115, 101, 116]⟩ : ByteArray).data.toList S).length ≤ 202000000 := by
     have h1 := lines_len (⟨#[115, 101, 116]⟩ : ByteArray).data.toList 3000 S HTx.out.s.2;have h2 : (⟨#[115, 101, 116]⟩ : ByteArray).data.toList.length = 3 := rfl;have h3 := HTx.out.s.1;have h4 : S.length * ((⟨#[115, 101, 116]⟩ : ByteArray).data.toList.length + 22 * 3000 + 1) ≤ 3000 * 67001 := Nat.mul_le_mul h3 (by rw [h2]; decide);omega
    obtain ⟨q6, hq6⟩ : ∃ q, q = anyB S := ⟨_, rfl⟩;obtain ⟨t6, ht6⟩ : ∃ t, t = linesL (⟨#[115, 101, 116]⟩ : ByteArray).data.toList S := ⟨_, rfl⟩;rw [← hq6, ← ht6] at HL6;rw [← ht6] at hb6;have HL7 := hid (rlines29_any 3000 (⟨#[114, 111, 119]⟩ : ByteArray) Aw nw cw X wl (HC0.out.x.below HBl.out) HC0.out.xl (by have := HTx.out.x.1; have := HC0.out.xl; omega) (Nat.le_refl _) HTx.out.x.2 (by decide));have hb7 : (linesL (⟨#[114, 111, 119]⟩ : ByteArray).data.toList X).length ≤ 202000000 := by
     have h1 := lines_len (⟨#[114, 111, 119]⟩ : ByteArray).data.toList 3000 X HTx.out.x.2;have h2 : (⟨#[114, 111, 119]⟩ : ByteArray).data.toList.length = 3 := rfl;have h3 := HTx.out.x.1;have h4 : X.length * ((⟨#[114, 111, 119]⟩ : ByteArray).data.toList.length + 22 * 3000 + 1) ≤ 3000 * 67001 := Nat.mul_le_mul h3 (by rw [h2]; decide);omega
    obtain ⟨q7, hq7⟩ : ∃ q, q = anyB X := ⟨_, rfl⟩;obtain ⟨t7, ht7⟩ : ∃ t, t = linesL (⟨#[114, 111, 119]⟩ : ByteArray).data.toList X := ⟨_, rfl⟩;rw [← hq7, ← ht7] at HL7;rw [← ht7] at hb7;have HBad := hid (show badT cn R P K V S X = ((((((((false || ([] : List Int).any bigI) || q1) || q2) || q3) || q4) || q5) || q6) || q7) by
     unfold badT;rw [any_mvL, hq1, hq2, hq3, hq4, hq5, hq6, hq7])
    have HTt := hid (show textL i cn R P K V S X = lineL (headL i) [] ++ t1 ++ t2 ++ t3 ++ t4 ++ t5 ++ t6 ++ t7 by
     unfold textL;rw [moves_map, ht1, ht2, ht3, ht4, ht5, ht6, ht7])
    have HN1 := hid (And.intro hq1 ht1);have HBd1 := hid hb1;have HN2 := hid (And.intro hq2 ht2);have HBd2 := hid hb2;have HN3 := hid (And.intro hq3 ht3);have HBd3 := hid hb3;have HN4 := hid (And.intro hq4 ht4);have HBd4 := hid hb4;have HN5 := hid (And.intro hq5 ht5);have HBd5 := hid hb5;have HN6 := hid (And.intro hq6 ht6);have HBd6 := hid hb6;have HN7 := hid (And.intro hq7 ht7);have HBd7 := hid hb7;clear hq1 ht1 hb1 hq2 ht2 hb2 hq3 ht3 hb3 hq4 ht4 hb4 hq5 ht5 hb5 hq6 ht6 hb6 hq7 ht7 hb7;go_wp2_with fail;rw [← hwl];obtain ⟨e0, e1, e2, e3, e4, e5, e6, e7⟩ := (HCb0.out.below HBl.out).cells;have HBe := hid (HB0.out.trans (HBl.out.mono HB0.out.size));clear d0 d1 d2 d3 d4 d5 d6 d7 hwl;((with_reducible refine HL1.out.mono ?_); rintro e wz ⟨y1, rfl, hd1, hs1, hwz⟩)
    obtain rfl : wl = wz := hwz;have HD1 := hid hd1;have hy1 : y1.size ≤ 100 := Nat.le_trans hs1 HBd1.out;clear hd1 hs1 HL1;go_wp2_with fail;((with_reducible refine HL2.out.mono ?_); rintro e wz ⟨y2, rfl, hd2, hs2, hwz⟩)
    obtain rfl : wl = wz := hwz;have HD2 := hid hd2;have hy2 : y2.size ≤ 70000 := Nat.le_trans hs2 HBd2.out;clear hd2 hs2 HL2;go_wp2_with fail;((with_reducible refine HL3.out.mono ?_); rintro e wz ⟨y3, rfl, hd3, hs3, hwz⟩)
    obtain rfl : wl = wz := hwz;have HD3 := hid hd3;have hy3 : y3.size ≤ 70000 := Nat.le_trans hs3 HBd3.out;clear hd3 hs3 HL3;go_wp2_with fail;((with_reducible refine HL4.out.mono ?_); rintro e wz ⟨y4, rfl, hd4, hs4, hwz⟩)
    obtain rfl : wl = wz := hwz;have HD4 := hid hd4;have hy4 : y4.size ≤ 202000000 := Nat.le_trans hs4 HBd4.out;clear hd4 hs4 HL4;go_wp2_with fail;((with_reducible refine HL5.out.mono ?_); rintro e wz ⟨y5, rfl, hd5, hs5, hwz⟩)
    obtain rfl : wl = wz := hwz;have HD5 := hid hd5;have hy5 : y5.size ≤ 202000000 := Nat.le_trans hs5 HBd5.out;clear hd5 hs5 HL5;go_wp2_with fail;((with_reducible refine HL6.out.mono ?_); rintro e wz ⟨y6, rfl, hd6, hs6, hwz⟩)
    obtain rfl : wl = wz := hwz;have HD6 := hid hd6;have hy6 : y6.size ≤ 202000000 := Nat.le_trans hs6 HBd6.out;clear hd6 hs6 HL6;go_wp2_with fail;((with_reducible refine HL7.out.mono ?_); rintro e wz ⟨y7, rfl, hd7, hs7, hwz⟩)
    obtain rfl : wl = wz := hwz;have HD7 := hid hd7;have hy7 : y7.size ≤ 202000000 := Nat.le_trans hs7 HBd7.out;clear hd7 hs7 HL7;clear HN1 HBd1 HN2 HBd2 HN3 HBd3 HN4 HBd4 HN5 HBd5 HN6 HBd6 HN7 HBd7 HLm HM3 HMl H64 HV HO;cases q1 with
    | true =>
     have HQ := hid (show badT cn R P K V S X = true by rw [HBad.out]; simp);clear HBad;go_wp2_with fail;go_ret2;exact TxPo.bad HI10.out HQ.out HBe.out
    | false =>
     cases q2 with
     | true =>
      have HQ := hid (show badT cn R P K V S X = true by rw [HBad.out]; simp);clear HBad;go_wp2_with fail;go_ret2;exact TxPo.bad HI10.out HQ.out HBe.out
     | false =>
      cases q3 with
      | true =>
       have HQ := hid (show badT cn R P K V S X = true by rw [HBad.out]; simp);clear HBad;go_wp2_with fail;go_ret2;exact TxPo.bad HI10.out HQ.out HBe.out
      | false =>
       cases q4 with
       | true =>
        have HQ := hid (show badT cn R P K V S X = true by rw [HBad.out]; simp);clear HBad;go_wp2_with fail;go_ret2;exact TxPo.bad HI10.out HQ.out HBe.out
       | false =>
        cases q5 with
        | true =>
         have HQ := hid (show badT cn R P K V S X = true by rw [HBad.out]; simp);clear HBad;go_wp2_with fail;go_ret2;exact TxPo.bad HI10.out HQ.out HBe.out
        | false =>
         cases q6 with
         | true =>
          have HQ := hid (show badT cn R P K V S X = true by rw [HBad.out]; simp);clear HBad;go_wp2_with fail;go_ret2;exact TxPo.bad HI10.out HQ.out HBe.out
         | false =>
          cases q7 with
          | true =>
           have HQ := hid (show badT cn R P K V S X = true by rw [HBad.out]; simp);clear HBad;go_wp2_with fail;go_ret2;exact TxPo.bad HI10.out HQ.out HBe.out
          | false =>
           have HE1 := hid (HD1.out rfl);have HE2 := hid (HD2.out rfl);have HE3 := hid (HD3.out rfl);have HE4 := hid (HD4.out rfl);have HE5 := hid (HD5.out rfl);have HE6 := hid (HD6.out rfl);have HE7 := hid (HD7.out rfl);have HQ := hid (show badT cn R P K V S X = false by rw [HBad.out]; rfl);clear HBad;go_wp2_with fail;((with_reducible refine (HWd.out _).mono ?_); rintro e wz ⟨rfl, hbz⟩)
           have HBz := hid (below_then HBe.out hbz);clear hbz HBe e0 e1 e2 e3 e4 e5 e6 e7
           go_upto_region 18 with (fail)
           obtain ⟨z, hz⟩ : ∃ z : ByteArray, z = ⟨#[99, 108, 97, 105, 109, 32]⟩ ++ wordS i ++ ⟨#[10]⟩ ++ y1 ++ y2 ++ y3 ++ y4 ++ y5 ++ y6 ++ y7 := ⟨_, rfl⟩;rw [← hz];have HZ := hid (show z.data.toList = textL i cn R P K V S X by
            rw [HTt.out, hz];simp only [cat_data, HE1.out, HE2.out, HE3.out, HE4.out, HE5.out, HE6.out, HE7.out];unfold lineL headL;rw [cat_data];simp)
           clear hz hy1 hy2 hy3 hy4 hy5 hy6 hy7 hws;by_cases hzl : 262144 < z.size
           · have p1 : decide ((262144 : Int) < (z.size : Int)) = true := by simp; omega
             have p2 : decide (262144 < z.size) = true := by simpa using hzl
             have HX := hid (show 262144 < (textL i cn R P K V S X).length by rw [← bytes_len HZ.out]; exact hzl);clear hzl;go_wp2_with fail;go_ret2;exact TxPo.full HI10.out HQ.out HX.out HBz.out
           · have p1 : decide ((262144 : Int) < (z.size : Int)) = false := by simp; omega
             have p2 : decide (262144 < z.size) = false := by simpa using hzl
             have HX := hid hzl;clear hzl;go_wp2_with fail;go_ret2;exact TxPo.ok HI10.out HQ.out HZ.out HX.out HBz.out
theorem rtext29_any (cl : Int) (cn : Int) (Ar : Option Addr) (nr cr : Nat) (R : List Int) (Ap : Option Addr) (np cp : Nat) (P : List Int) (Ak : Option Addr) (nk ck : Nat) (K : List (List Int)) (Av : Option Addr) (nv cv : Nat) (V : List Mv) (As : Option Addr) (ns cs : Nat) (S : List (List Int)) (Aw : Option Addr) (nw cw : Nat) (X : List (List Int)) (w : World) (hC : CfM w Ar nr R Ap np P Ak nk K Av nv V As ns S Aw nw X) (hx : TxN cn R P K V S X) :
 Calls Tryz.prog 44 #[.agg #[.int .i64 cl, .int .i64 cn, .slice Ar nr cr, .slice Ap np cp, .slice Ak nk ck, .slice Av nv cv, .slice As ns cs, .slice Aw nw cw]] w (TxPo cl cn R P K V S X w) := by
 by_cases hcl : cl < 1 ∨ 10 < cl
 · have HB0 := hid (below_alloc w (.cells #[.int .i64 cl, .int .i64 cn, .slice Ar nr cr, .slice Ap np cp, .slice Ak nk ck, .slice Av nv cv, .slice As ns cs, .slice Aw nw cw] 31));have HCb0 := hid (show CtB _ w.heap.size #[.int .i64 cl, .int .i64 cn, .slice Ar nr cr, .slice Ap np cp, .slice Ak nk ck, .slice Av nv cv, .slice As ns cs, .slice Aw nw cw] from heap_alloc_new w _);have HQ := hid hcl;clear hC hx;rcases hcl with h1 | h1
   · have q1 : decide (cl < 1) = true := by simpa using h1
     clear h1;go_enter Tryz.func44, Tryz.ntmps44;go_wp2_with fail;go_ret2;exact TxPo.arg HQ.out HB0.out
   · have q1 : decide (cl < 1) = false := by simp; omega
     have q2 : decide (10 < cl) = true := by simpa using h1
     clear h1;go_enter Tryz.func44, Tryz.ntmps44;go_wp2_with fail;go_ret2;exact TxPo.arg HQ.out HB0.out
 · obtain ⟨i, hi⟩ := Int.eq_ofNat_of_zero_le (show 0 ≤ cl - 1 by omega);obtain rfl : cl = (i : Int) + 1 := by omega
   exact rtext29_in i (by omega) cn Ar nr cr R Ap np cp P Ak nk ck K Av nv cv V As ns cs S Aw nw cw X w hC hx
end Go.Proofs.YtkhmngljpfibcaaGreatDoor
