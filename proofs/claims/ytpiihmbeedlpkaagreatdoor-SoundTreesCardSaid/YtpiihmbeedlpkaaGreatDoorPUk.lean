/- right of ptree and of reference 19: what a call returns. -/
import Derived.Test.YtpiihmbeedlpkaaGreatDoorPUu
import Derived.Test.YtpiihmbeedlpkaaGreatDoorPUn
namespace Go.Proofs.YtpiihmbeedlpkaaGreatDoor
set_option maxRecDepth 100000
set_option maxHeartbeats 6400000
open Go.Lib (hid)
open Go.RowKit

def RgPo (op : Int) (n : Nat) (w : World) (e : Ending) (w' : World) : Prop := ∃ q : Bool, e = .returned (.bool q) ∧ (q = true → rgt op n) ∧ Below w.heap.size w w'
theorem pright_any (op : Int) (act : ByteArray) (A : Option Addr) (n c : Nat) (w : World) (hs : act.size ≤ 9223372036854775807) (hm : n ≤ 9223372036854775807) :
 Calls Tryz.prog 54 #[.agg #[.int .i64 op, .string act, .slice A n c]] w (RgPo op n w) := by
 have HB := hid (below_alloc w (.cells #[.int .i64 op, .string act, .slice A n c] 24));have HNa := hid (fun w => nisName_any act w hs);clear hs;by_cases h1 : op = 1
 · subst h1;go_enter Tryz.func54, Tryz.ntmps54;by_cases hn : n = 0
   · have q0 : ((n : Int) == 0) = true := by rw [hn]; rfl
     have HN := hid hn;clear hn;go_wp2_with fail;((with_reducible refine (HNa.out _).mono ?_); rintro e w1 ⟨rfl, rfl⟩)
     go_wp2_with fail;go_ret;exact ⟨_, rfl, fun h => (by first | (unfold rgt; omega) | (have hn := HN.out; unfold rgt; omega) | (cases h; done)), HB.out⟩
   · have q0 : ((n : Int) == 0) = false := by rw [beq_eq_false_iff_ne]; omega
     go_wp2_with fail;go_ret;exact ⟨_, rfl, fun h => (by first | (unfold rgt; omega) | (have hn := HN.out; unfold rgt; omega) | (cases h; done)), HB.out⟩
 have g1 : (op == 1) = false := by rw [beq_eq_false_iff_ne]; exact h1
 by_cases h2 : op = 2
 · subst h2;go_enter Tryz.func54, Tryz.ntmps54;by_cases hn : n = 0
   · have q0 : ((n : Int) == 0) = true := by rw [hn]; rfl
     have HN := hid hn;clear hn;rcases empty_facts act with ⟨e0, e1, e2, e3⟩ | ⟨e0, e2, e3⟩
     · clear e0 e1;go_wp2_with fail;go_ret;exact ⟨_, rfl, fun h => (by first | (unfold rgt; omega) | (have hn := HN.out; unfold rgt; omega) | (cases h; done)), HB.out⟩
     · clear e0;go_wp2_with fail;go_ret;exact ⟨_, rfl, fun h => (by first | (unfold rgt; omega) | (have hn := HN.out; unfold rgt; omega) | (cases h; done)), HB.out⟩
   · have q0 : ((n : Int) == 0) = false := by rw [beq_eq_false_iff_ne]; omega
     go_wp2_with fail;go_ret;exact ⟨_, rfl, fun h => (by first | (unfold rgt; omega) | (have hn := HN.out; unfold rgt; omega) | (cases h; done)), HB.out⟩
 have g2 : (op == 2) = false := by rw [beq_eq_false_iff_ne]; exact h2
 by_cases h3 : op = 3
 · subst h3;go_enter Tryz.func54, Tryz.ntmps54;by_cases hn : 1 ≤ n
   · have q0 : decide ((1 : Int) ≤ (n : Int)) = true := by simp; omega
     have HN := hid hn;clear hn;rcases empty_facts act with ⟨e0, e1, e2, e3⟩ | ⟨e0, e2, e3⟩
     · clear e0 e1;go_wp2_with fail;go_ret;exact ⟨_, rfl, fun h => (by first | (unfold rgt; omega) | (have hn := HN.out; unfold rgt; omega) | (cases h; done)), HB.out⟩
     · clear e0;go_wp2_with fail;go_ret;exact ⟨_, rfl, fun h => (by first | (unfold rgt; omega) | (have hn := HN.out; unfold rgt; omega) | (cases h; done)), HB.out⟩
   · have q0 : decide ((1 : Int) ≤ (n : Int)) = false := by simp; omega
     go_wp2_with fail;go_ret;exact ⟨_, rfl, fun h => (by first | (unfold rgt; omega) | (have hn := HN.out; unfold rgt; omega) | (cases h; done)), HB.out⟩
 have g3 : (op == 3) = false := by rw [beq_eq_false_iff_ne]; exact h3
 by_cases h4 : op = 4
 · subst h4;go_enter Tryz.func54, Tryz.ntmps54;by_cases hn : 1 ≤ n
   · have q0 : decide ((1 : Int) ≤ (n : Int)) = true := by simp; omega
     have HN := hid hn;clear hn;rcases empty_facts act with ⟨e0, e1, e2, e3⟩ | ⟨e0, e2, e3⟩
     · clear e0 e1;go_wp2_with fail;go_ret;exact ⟨_, rfl, fun h => (by first | (unfold rgt; omega) | (have hn := HN.out; unfold rgt; omega) | (cases h; done)), HB.out⟩
     · clear e0;go_wp2_with fail;go_ret;exact ⟨_, rfl, fun h => (by first | (unfold rgt; omega) | (have hn := HN.out; unfold rgt; omega) | (cases h; done)), HB.out⟩
   · have q0 : decide ((1 : Int) ≤ (n : Int)) = false := by simp; omega
     go_wp2_with fail;go_ret;exact ⟨_, rfl, fun h => (by first | (unfold rgt; omega) | (have hn := HN.out; unfold rgt; omega) | (cases h; done)), HB.out⟩
 have g4 : (op == 4) = false := by rw [beq_eq_false_iff_ne]; exact h4
 by_cases h5 : op = 5
 · subst h5;go_enter Tryz.func54, Tryz.ntmps54;by_cases hn : 1 ≤ n
   · have q0 : decide ((1 : Int) ≤ (n : Int)) = true := by simp; omega
     have HN := hid hn;clear hn;rcases empty_facts act with ⟨e0, e1, e2, e3⟩ | ⟨e0, e2, e3⟩
     · clear e0 e1;go_wp2_with fail;go_ret;exact ⟨_, rfl, fun h => (by first | (unfold rgt; omega) | (have hn := HN.out; unfold rgt; omega) | (cases h; done)), HB.out⟩
     · clear e0;go_wp2_with fail;go_ret;exact ⟨_, rfl, fun h => (by first | (unfold rgt; omega) | (have hn := HN.out; unfold rgt; omega) | (cases h; done)), HB.out⟩
   · have q0 : decide ((1 : Int) ≤ (n : Int)) = false := by simp; omega
     go_wp2_with fail;go_ret;exact ⟨_, rfl, fun h => (by first | (unfold rgt; omega) | (have hn := HN.out; unfold rgt; omega) | (cases h; done)), HB.out⟩
 have g5 : (op == 5) = false := by rw [beq_eq_false_iff_ne]; exact h5
 by_cases h6 : op = 6
 · subst h6;go_enter Tryz.func54, Tryz.ntmps54;by_cases hn : n = 2
   · have q0 : ((n : Int) == 2) = true := by rw [hn]; rfl
     have HN := hid hn;clear hn;rcases empty_facts act with ⟨e0, e1, e2, e3⟩ | ⟨e0, e2, e3⟩
     · clear e0 e1;go_wp2_with fail;go_ret;exact ⟨_, rfl, fun h => (by first | (unfold rgt; omega) | (have hn := HN.out; unfold rgt; omega) | (cases h; done)), HB.out⟩
     · clear e0;go_wp2_with fail;go_ret;exact ⟨_, rfl, fun h => (by first | (unfold rgt; omega) | (have hn := HN.out; unfold rgt; omega) | (cases h; done)), HB.out⟩
   · have q0 : ((n : Int) == 2) = false := by rw [beq_eq_false_iff_ne]; omega
     go_wp2_with fail;go_ret;exact ⟨_, rfl, fun h => (by first | (unfold rgt; omega) | (have hn := HN.out; unfold rgt; omega) | (cases h; done)), HB.out⟩
 have g6 : (op == 6) = false := by rw [beq_eq_false_iff_ne]; exact h6
 clear h1 h2 h3 h4 h5 h6;go_enter Tryz.func54, Tryz.ntmps54;go_wp2_with fail;go_ret;exact ⟨_, rfl, fun h => (by first | (unfold rgt; omega) | (have hn := HN.out; unfold rgt; omega) | (cases h; done)), HB.out⟩
theorem rright_any (op : Int) (act : ByteArray) (A : Option Addr) (n c : Nat) (w : World) (hs : act.size ≤ 9223372036854775807) (hm : n ≤ 9223372036854775807) :
 Calls Tryz.prog 30 #[.agg #[.int .i64 op, .string act, .slice A n c]] w (RgPo op n w) := by
 have HB := hid (below_alloc w (.cells #[.int .i64 op, .string act, .slice A n c] 24));have HNa := hid (fun w => sisName_any act w hs);clear hs;by_cases h1 : op = 1
 · subst h1;go_enter Tryz.func30, Tryz.ntmps30;go_wp2_with fail;((with_reducible refine (HNa.out _).mono ?_); rintro e w1 ⟨rfl, rfl⟩)
   cases isNameB act.data.toList with
   | false =>
    go_wp2_with fail;go_ret;exact ⟨_, rfl, fun h => (by first | (unfold rgt; omega) | (have hn := HN.out; unfold rgt; omega) | (cases h; done)), HB.out⟩
   | true =>
    by_cases hn : n = 0
    · have q0 : ((n : Int) == 0) = true := by rw [hn]; rfl
      have HN := hid hn;clear hn;go_wp2_with fail;go_ret;exact ⟨_, rfl, fun h => (by first | (unfold rgt; omega) | (have hn := HN.out; unfold rgt; omega) | (cases h; done)), HB.out⟩
    · have q0 : ((n : Int) == 0) = false := by rw [beq_eq_false_iff_ne]; omega
      go_wp2_with fail;go_ret;exact ⟨_, rfl, fun h => (by first | (unfold rgt; omega) | (have hn := HN.out; unfold rgt; omega) | (cases h; done)), HB.out⟩
 have g1 : (op == 1) = false := by rw [beq_eq_false_iff_ne]; exact h1
 by_cases h2 : op = 2
 · subst h2;go_enter Tryz.func30, Tryz.ntmps30;rcases empty_facts act with ⟨e0, e1, e2, e3⟩ | ⟨e0, e2, e3⟩
   · clear e0 e1;by_cases hn : n = 0
     · have q0 : ((n : Int) == 0) = true := by rw [hn]; rfl
       have HN := hid hn;clear hn;go_wp2_with fail;go_ret;exact ⟨_, rfl, fun h => (by first | (unfold rgt; omega) | (have hn := HN.out; unfold rgt; omega) | (cases h; done)), HB.out⟩
     · have q0 : ((n : Int) == 0) = false := by rw [beq_eq_false_iff_ne]; omega
       go_wp2_with fail;go_ret;exact ⟨_, rfl, fun h => (by first | (unfold rgt; omega) | (have hn := HN.out; unfold rgt; omega) | (cases h; done)), HB.out⟩
   · clear e0;go_wp2_with fail;go_ret;exact ⟨_, rfl, fun h => (by first | (unfold rgt; omega) | (have hn := HN.out; unfold rgt; omega) | (cases h; done)), HB.out⟩
 have g2 : (op == 2) = false := by rw [beq_eq_false_iff_ne]; exact h2
 by_cases h3 : op = 3
 · subst h3;go_enter Tryz.func30, Tryz.ntmps30;rcases empty_facts act with ⟨e0, e1, e2, e3⟩ | ⟨e0, e2, e3⟩
   · clear e0 e1;by_cases hn : 1 ≤ n
     · have q0 : decide ((1 : Int) ≤ (n : Int)) = true := by simp; omega
       have HN := hid hn;clear hn;go_wp2_with fail;go_ret;exact ⟨_, rfl, fun h => (by first | (unfold rgt; omega) | (have hn := HN.out; unfold rgt; omega) | (cases h; done)), HB.out⟩
     · have q0 : decide ((1 : Int) ≤ (n : Int)) = false := by simp; omega
       go_wp2_with fail;go_ret;exact ⟨_, rfl, fun h => (by first | (unfold rgt; omega) | (have hn := HN.out; unfold rgt; omega) | (cases h; done)), HB.out⟩
   · clear e0;go_wp2_with fail;go_ret;exact ⟨_, rfl, fun h => (by first | (unfold rgt; omega) | (have hn := HN.out; unfold rgt; omega) | (cases h; done)), HB.out⟩
 have g3 : (op == 3) = false := by rw [beq_eq_false_iff_ne]; exact h3
 by_cases h4 : op = 4
 · subst h4;go_enter Tryz.func30, Tryz.ntmps30;rcases empty_facts act with ⟨e0, e1, e2, e3⟩ | ⟨e0, e2, e3⟩
   · clear e0 e1;by_cases hn : 1 ≤ n
     · have q0 : decide ((1 : Int) ≤ (n : Int)) = true := by simp; omega
       have HN := hid hn;clear hn;go_wp2_with fail;go_ret;exact ⟨_, rfl, fun h => (by first | (unfold rgt; omega) | (have hn := HN.out; unfold rgt; omega) | (cases h; done)), HB.out⟩
     · have q0 : decide ((1 : Int) ≤ (n : Int)) = false := by simp; omega
       go_wp2_with fail;go_ret;exact ⟨_, rfl, fun h => (by first | (unfold rgt; omega) | (have hn := HN.out; unfold rgt; omega) | (cases h; done)), HB.out⟩
   · clear e0;go_wp2_with fail;go_ret;exact ⟨_, rfl, fun h => (by first | (unfold rgt; omega) | (have hn := HN.out; unfold rgt; omega) | (cases h; done)), HB.out⟩
 have g4 : (op == 4) = false := by rw [beq_eq_false_iff_ne]; exact h4
 by_cases h5 : op = 5
 · subst h5;go_enter Tryz.func30, Tryz.ntmps30;rcases empty_facts act with ⟨e0, e1, e2, e3⟩ | ⟨e0, e2, e3⟩
   · clear e0 e1;by_cases hn : 1 ≤ n
     · have q0 : decide ((1 : Int) ≤ (n : Int)) = true := by simp; omega
       have HN := hid hn;clear hn;go_wp2_with fail;go_ret;exact ⟨_, rfl, fun h => (by first | (unfold rgt; omega) | (have hn := HN.out; unfold rgt; omega) | (cases h; done)), HB.out⟩
     · have q0 : decide ((1 : Int) ≤ (n : Int)) = false := by simp; omega
       go_wp2_with fail;go_ret;exact ⟨_, rfl, fun h => (by first | (unfold rgt; omega) | (have hn := HN.out; unfold rgt; omega) | (cases h; done)), HB.out⟩
   · clear e0;go_wp2_with fail;go_ret;exact ⟨_, rfl, fun h => (by first | (unfold rgt; omega) | (have hn := HN.out; unfold rgt; omega) | (cases h; done)), HB.out⟩
 have g5 : (op == 5) = false := by rw [beq_eq_false_iff_ne]; exact h5
 by_cases h6 : op = 6
 · subst h6;go_enter Tryz.func30, Tryz.ntmps30;rcases empty_facts act with ⟨e0, e1, e2, e3⟩ | ⟨e0, e2, e3⟩
   · clear e0 e1;by_cases hn : n = 2
     · have q0 : ((n : Int) == 2) = true := by rw [hn]; rfl
       have HN := hid hn;clear hn;go_wp2_with fail;go_ret;exact ⟨_, rfl, fun h => (by first | (unfold rgt; omega) | (have hn := HN.out; unfold rgt; omega) | (cases h; done)), HB.out⟩
     · have q0 : ((n : Int) == 2) = false := by rw [beq_eq_false_iff_ne]; omega
       go_wp2_with fail;go_ret;exact ⟨_, rfl, fun h => (by first | (unfold rgt; omega) | (have hn := HN.out; unfold rgt; omega) | (cases h; done)), HB.out⟩
   · clear e0;go_wp2_with fail;go_ret;exact ⟨_, rfl, fun h => (by first | (unfold rgt; omega) | (have hn := HN.out; unfold rgt; omega) | (cases h; done)), HB.out⟩
 have g6 : (op == 6) = false := by rw [beq_eq_false_iff_ne]; exact h6
 clear h1 h2 h3 h4 h5 h6;go_enter Tryz.func30, Tryz.ntmps30;go_wp2_with fail;go_ret;exact ⟨_, rfl, fun h => (by first | (unfold rgt; omega) | (have hn := HN.out; unfold rgt; omega) | (cases h; done)), HB.out⟩
end Go.Proofs.YtpiihmbeedlpkaaGreatDoor
