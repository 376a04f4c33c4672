/- An event that came in by value: its fields, as they are read. -/
import Derived.Test.YtbbdgncjpbfooaaGreatDoorSb
import Derived.Test.YtbbdgncjpbfooaaGreatDoorEj
namespace Go.Proofs.YtbbdgncjpbfooaaGreatDoor
open Go.ChangeShapes Go.WideShapes Go.ChangeAt Go.WideMaps Go.WideElems Go.RowKit Go.Deep

theorem c_str : Tryz.prog.cellsOf 9 = 1 := by kernel_rfl
theorem c_val : Tryz.prog.cellsOf 39 = 3 := by kernel_rfl
theorem c_fld : Tryz.prog.cellsOf 49 = 4 := by kernel_rfl
theorem c_flds : Tryz.prog.cellsOf 22 = 1 := by kernel_rfl
theorem c_ev : Tryz.prog.cellsOf 24 = 6 := by kernel_rfl
section
variable {H : Type} {enc : TypeId × Value → H} {w : World} {base : Nat} {spare : Nat → Bool} {held : Bool}
/-- the three cells of a value -/
theorem val_cells {n : Nat} {c0 c1 c2 : Value} {x : DataW H × List MemPlace} (h : DataW.trod enc Tryz.prog w base spare held n 39 [c0, c1, c2] = some x) :
    ∃ v : Vl, c0 = .int .i64 v.k ∧ c1 = .int .i64 v.n ∧ c2 = .string v.s ∧ v.s.size ≤ maxLen ∧ -9223372036854775808 ≤ v.n ∧ v.n ≤ 9223372036854775807 := by
  obtain ⟨xs, n, _, hx, _, hlen, hg⟩ := DataW.trod_struct Tryz.underlying39 h
  match xs, hlen with
  | [y0, y1, y2], _ =>
    have g0 := hg 0 _ rfl
    have g1 := hg 1 _ rfl
    have g2 := hg 2 _ rfl
    simp [c_int, c_str] at g0 g1 g2
    obtain ⟨k, e0, _, _⟩ := DataW.trod_int Tryz.underlying3 g0
    obtain ⟨m, e1, _, hm⟩ := DataW.trod_int Tryz.underlying3 g1
    obtain ⟨u, e2, _, hu⟩ := DataW.trod_string Tryz.underlying9 g2
    simp at e0 e1 e2
    exact ⟨⟨k, m, u⟩, e0, e1, e2, hu, bounds_i64 hm⟩
/-- the four cells of a field -/
theorem fld_cells {n : Nat} {c0 c1 c2 c3 : Value} {x : DataW H × List MemPlace} (h : DataW.trod enc Tryz.prog w base spare held n 49 [c0, c1, c2, c3] = some x) :
    ∃ f : Fd, c0 = .string f.nm ∧ c1 = .int .i64 f.v.k ∧ c2 = .int .i64 f.v.n ∧ c3 = .string f.v.s ∧ f.nm.size ≤ maxLen ∧ f.v.s.size ≤ maxLen := by
  obtain ⟨xs, n, _, hx, _, hlen, hg⟩ := DataW.trod_struct Tryz.underlying49 h
  match xs, hlen with
  | [y0, y1], _ =>
    have g0 := hg 0 _ rfl
    have g1 := hg 1 _ rfl
    simp [c_str, c_val] at g0 g1
    obtain ⟨u, e0, _, hu⟩ := DataW.trod_string Tryz.underlying9 g0
    obtain ⟨v, e1, e2, e3, hv, _⟩ := val_cells g1
    simp at e0
    exact ⟨⟨u, v⟩, e0, e1, e2, e3, hu, hv⟩
end
instance : Inhabited Fd := ⟨⟨⟨#[]⟩, ⟨0, 0, ⟨#[]⟩⟩⟩⟩
/-- a slice of fields that came in -/
theorem open_fds {H : Type} {enc : TypeId × Value → H} {W : World} {fuel : Nat} {c : Value} {d : DataW H} {p : List MemPlace}
    (hf : DataW.trod enc Tryz.prog W 0 (fun _ => true) true fuel 22 [c] = some (d, p)) :
    ∃ (A : Option Addr) (n cap : Nat) (L : List Fd), c = .slice A n cap ∧ FdIn W A L ∧ L.length = n ∧ n ≤ cap ∧ cap ≤ 9223372036854775807 ∧ ∀ f ∈ L, f.nm.size ≤ 9223372036854775807 ∧ f.v.s.size ≤ 9223372036854775807 := by
  rcases open_slice Tryz.underlying22 hf with ⟨hcs, _⟩ | ⟨a, len, cap, m, n, D, Pl, hcs, hb, hl, hm, hmm, hx, hi⟩
  · simp at hcs
    subst hcs
    exact ⟨none, 0, 0, [], rfl, fun i hi => by simp at hi, rfl, Nat.le_refl _, by omega, fun z hz => by simp at hz⟩
  · simp at hcs
    subst hcs
    rw [c_fld] at hi
    simp only [if_true] at hmm
    subst hmm
    have key : ∀ i, i < len → ∃ f : Fd, (f.nm.size ≤ maxLen ∧ f.v.s.size ≤ maxLen) ∧ (a.add (i * 4)).block < W.heap.size ∧ FdAt W (a.add (i * 4)) f := by
      intro i hil
      obtain ⟨cs', hc, ht⟩ := hi i (by omega)
      obtain ⟨_, hcl, hat⟩ := World.cells?_some hc
      match cs', hcl with
      | [c0, c1, c2, c3], _ =>
        obtain ⟨f, rfl, rfl, rfl, rfl, h1, h2⟩ := fld_cells ht
        have a0 := hat 0 (by omega)
        have a1 := hat 1 (by omega)
        have a2 := hat 2 (by omega)
        have a3 := hat 3 (by omega)
        generalize a.add (i * 4) = q at *
        refine ⟨f, ⟨h1, h2⟩, block_lt_of_cell (by simpa [Addr.add] using a0), ?_, ?_, ?_, ?_⟩
        · simpa [Addr.add] using a0
        · simpa [Addr.add] using a1
        · simpa [Addr.add] using a2
        · simpa [Addr.add] using a3
    obtain ⟨f, hf'⟩ := choose_lt key
    have hml : maxLen = 9223372036854775807 := rfl
    refine ⟨some a, len, m, (List.range len).map f, rfl, ?_, by simp, hl, by omega, ?_⟩
    · intro i hil
      have hil' : i < len := by simpa using hil
      obtain ⟨_, h2, h3⟩ := hf' i hil'
      exact ⟨a, rfl, h2, by simpa using h3⟩
    · intro t ht
      obtain ⟨i, hi', rfl⟩ := List.mem_map.1 ht
      exact (hf' i (List.mem_range.1 hi')).1
theorem open_six {P : Program} {w : World} {r : Reach} {b0 : Nat} {t : TypeId} {fs : Array Field} {v : Value} (hs : P.underlying t = some (.struct fs)) (hC : P.cellsOf t = 6) (hv : Value.okWide P w r b0 t v) : ∃ c0 c1 c2 c3 c4 c5, v = .agg #[c0, c1, c2, c3, c4, c5] := by
  obtain ⟨cs, rfl, hsz⟩ := okWide_struct hs hv
  obtain ⟨q⟩ := cs
  match q, hsz.trans hC with
  | [c0, c1, c2, c3, c4, c5], _ => exact ⟨c0, c1, c2, c3, c4, c5, rfl⟩
set_option maxRecDepth 100000 in
theorem open_event {H : Type} {enc : TypeId × Value → H} {W : World} {base : Nat} {v : Value} {d : DataW H} {p : List MemPlace}
    (hv : Value.okWide Tryz.prog W .any base 24 v) (h : DataW.Trod enc Tryz.prog W 0 (fun _ => true) true 24 v d p) :
    ∃ (e : Ev) (A : Option Addr) (n cap : Nat), v = .agg #[.string e.c, .string e.a, .string e.r, .int .i64 e.life, .int .i64 e.time, .slice A n cap] ∧ FdIn W A e.d ∧ e.d.length = n ∧ n ≤ cap ∧ cap ≤ 9223372036854775807 ∧ e.fit 9223372036854775807 := by
  obtain ⟨c0, c1, c2, c3, c4, c5, rfl⟩ := open_six Tryz.underlying24 c_ev hv
  obtain ⟨fuel, hf⟩ := h
  obtain ⟨xs, n, _, hx, _, hlen, hg⟩ := DataW.trod_struct Tryz.underlying24 hf
  match xs, hlen with
  | [y0, y1, y2, y3, y4, y5], _ =>
    have g0 := hg 0 _ rfl
    have g1 := hg 1 _ rfl
    have g2 := hg 2 _ rfl
    have g3 := hg 3 _ rfl
    have g4 := hg 4 _ rfl
    have g5 := hg 5 _ rfl
    simp [c_int, c_str, c_flds, Value.cells] at g0 g1 g2 g3 g4 g5
    obtain ⟨c, e0, _, h0⟩ := DataW.trod_string Tryz.underlying9 g0
    obtain ⟨a, e1, _, h1⟩ := DataW.trod_string Tryz.underlying9 g1
    obtain ⟨r, e2, _, h2⟩ := DataW.trod_string Tryz.underlying9 g2
    obtain ⟨l, e3, _, _⟩ := DataW.trod_int Tryz.underlying3 g3
    obtain ⟨t, e4, _, _⟩ := DataW.trod_int Tryz.underlying3 g4
    obtain ⟨A, m, cap, L, e5, hin, hl, hc, hm, hfd⟩ := open_fds g5
    simp at e0 e1 e2 e3 e4
    subst e0 e1 e2 e3 e4 e5
    have hml : maxLen = 9223372036854775807 := rfl
    exact ⟨⟨c, a, r, l, t, L⟩, A, m, cap, rfl, hin, hl, hc, hm, by show c.size ≤ _; omega, by show a.size ≤ _; omega, by show r.size ≤ _; omega, hfd⟩
end Go.Proofs.YtbbdgncjpbfooaaGreatDoor
