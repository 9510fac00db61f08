/- The two switches over the first word of a command (printed by gcmdf.py). -/
import Derived.Test.YtehoaoeahfmfpaaDoorCmdL
namespace Go.Proofs.YtehoaoeahfmfpaaDoor
open Go.RowKit Go.Sort

/-- fresh memory with a row of texts -/
theorem rd_lit (w : World) (l : List ByteArray) (hn : l.length ≤ maxLen) : RdT (w.alloc (.cells (l.map Value.string).toArray 9)) w.heap.size (w.alloc (.cells (l.map Value.string).toArray 9)).heap.size (some ⟨w.heap.size, 0, none⟩) l := by
  have h := World.ownsRow_lit (base := w.heap.size) (e := 9) (size := 1) w (l.map Value.string).toArray l.length (Nat.le_refl _) hn (by simp)
  have e2 : l.flatMap strC = (l.map Value.string).toArray.toList := by rw [flat_str]
  rw [← e2] at h
  exact Rd.own strC_len h

set_option maxRecDepth 100000 in
set_option maxHeartbeats 4000000 in
theorem l27Form_any (s : ByteArray) (n : Int) (w : World) :
    Calls Tryd.prog 13 #[.string s, .int .i64 n] w fun e w' => e = .returned (.string (frC (clW s) n)) ∧ w = w' := by
  by_cases h0 : (s.toList == [114, 97, 110, 103, 101]) = true
  · have HC := Lib.hid (show clW s = 0 by simp only [clW, h0, if_true])
    go_enter Tryd.func13, Tryd.ntmps13
    go_wp2
    go_ret
    exact ⟨ret_str (by rw [HC.out]; rfl), rfl⟩
  replace h0 := Bool.eq_false_iff.2 h0
  by_cases h1 : (s.toList == [107, 105, 110, 103]) = true
  · have HC := Lib.hid (show clW s = 1 by simp only [clW, h0, h1, if_true, if_false, Bool.false_eq_true])
    go_enter Tryd.func13, Tryd.ntmps13
    go_wp2
    go_ret
    exact ⟨ret_str (by rw [HC.out]; rfl), rfl⟩
  replace h1 := Bool.eq_false_iff.2 h1
  by_cases h2 : (s.toList == [112, 101, 114, 115, 111, 110]) = true
  · have HC := Lib.hid (show clW s = 1 by simp only [clW, h0, h1, h2, if_true, if_false, Bool.false_eq_true])
    go_enter Tryd.func13, Tryd.ntmps13
    go_wp2
    go_ret
    exact ⟨ret_str (by rw [HC.out]; rfl), rfl⟩
  replace h2 := Bool.eq_false_iff.2 h2
  by_cases h3 : (s.toList == [115, 101, 97, 108]) = true
  · have HC := Lib.hid (show clW s = 1 by simp only [clW, h0, h1, h2, h3, if_true, if_false, Bool.false_eq_true])
    go_enter Tryd.func13, Tryd.ntmps13
    go_wp2
    go_ret
    exact ⟨ret_str (by rw [HC.out]; rfl), rfl⟩
  replace h3 := Bool.eq_false_iff.2 h3
  by_cases h4 : (s.toList == [104, 97, 110, 100]) = true
  · have HC := Lib.hid (show clW s = 1 by simp only [clW, h0, h1, h2, h3, h4, if_true, if_false, Bool.false_eq_true])
    go_enter Tryd.func13, Tryd.ntmps13
    go_wp2
    go_ret
    exact ⟨ret_str (by rw [HC.out]; rfl), rfl⟩
  replace h4 := Bool.eq_false_iff.2 h4
  by_cases h5 : (s.toList == [116, 101, 114, 109]) = true
  · have HC := Lib.hid (show clW s = 2 by simp only [clW, h0, h1, h2, h3, h4, h5, if_true, if_false, Bool.false_eq_true])
    go_enter Tryd.func13, Tryd.ntmps13
    go_wp2
    go_ret
    exact ⟨ret_str (by rw [HC.out]; rfl), rfl⟩
  replace h5 := Bool.eq_false_iff.2 h5
  by_cases h6 : (s.toList == [112, 108, 97, 99, 101]) = true
  · have HC := Lib.hid (show clW s = 3 by simp only [clW, h0, h1, h2, h3, h4, h5, h6, if_true, if_false, Bool.false_eq_true])
    go_enter Tryd.func13, Tryd.ntmps13
    go_wp2
    go_ret
    exact ⟨ret_str (by rw [HC.out]; rfl), rfl⟩
  replace h6 := Bool.eq_false_iff.2 h6
  by_cases h7 : (s.toList == [100, 101, 101, 100]) = true
  · have HC := Lib.hid (show clW s = 3 by simp only [clW, h0, h1, h2, h3, h4, h5, h6, h7, if_true, if_false, Bool.false_eq_true])
    go_enter Tryd.func13, Tryd.ntmps13
    go_wp2
    go_ret
    exact ⟨ret_str (by rw [HC.out]; rfl), rfl⟩
  replace h7 := Bool.eq_false_iff.2 h7
  by_cases h8 : (s.toList == [100, 97, 121, 115]) = true
  · have HC := Lib.hid (show clW s = 3 by simp only [clW, h0, h1, h2, h3, h4, h5, h6, h7, h8, if_true, if_false, Bool.false_eq_true])
    go_enter Tryd.func13, Tryd.ntmps13
    go_wp2
    go_ret
    exact ⟨ret_str (by rw [HC.out]; rfl), rfl⟩
  replace h8 := Bool.eq_false_iff.2 h8
  by_cases h9 : (s.toList == [100, 97, 116, 101, 100]) = true
  · have HC := Lib.hid (show clW s = 3 by simp only [clW, h0, h1, h2, h3, h4, h5, h6, h7, h8, h9, if_true, if_false, Bool.false_eq_true])
    go_enter Tryd.func13, Tryd.ntmps13
    go_wp2
    go_ret
    exact ⟨ret_str (by rw [HC.out]; rfl), rfl⟩
  replace h9 := Bool.eq_false_iff.2 h9
  by_cases h10 : (s.toList == [114, 101, 97, 115, 111, 110, 115]) = true
  · have HC := Lib.hid (show clW s = 3 by simp only [clW, h0, h1, h2, h3, h4, h5, h6, h7, h8, h9, h10, if_true, if_false, Bool.false_eq_true])
    go_enter Tryd.func13, Tryd.ntmps13
    go_wp2
    go_ret
    exact ⟨ret_str (by rw [HC.out]; rfl), rfl⟩
  replace h10 := Bool.eq_false_iff.2 h10
  by_cases h11 : (s.toList == [119, 97, 121]) = true
  · have HC := Lib.hid (show clW s = 4 by simp only [clW, h0, h1, h2, h3, h4, h5, h6, h7, h8, h9, h10, h11, if_true, if_false, Bool.false_eq_true])
    go_enter Tryd.func13, Tryd.ntmps13
    go_wp2
    go_ret
    exact ⟨ret_str (by rw [HC.out]; rfl), rfl⟩
  replace h11 := Bool.eq_false_iff.2 h11
  by_cases h12 : (s.toList == [115, 116, 97, 121]) = true
  · have HC := Lib.hid (show clW s = 4 by simp only [clW, h0, h1, h2, h3, h4, h5, h6, h7, h8, h9, h10, h11, h12, if_true, if_false, Bool.false_eq_true])
    go_enter Tryd.func13, Tryd.ntmps13
    go_wp2
    go_ret
    exact ⟨ret_str (by rw [HC.out]; rfl), rfl⟩
  replace h12 := Bool.eq_false_iff.2 h12
  by_cases h13 : (s.toList == [115, 97, 121]) = true
  · have HC := Lib.hid (show clW s = 5 by simp only [clW, h0, h1, h2, h3, h4, h5, h6, h7, h8, h9, h10, h11, h12, h13, if_true, if_false, Bool.false_eq_true])
    go_enter Tryd.func13, Tryd.ntmps13
    go_wp2
    go_ret
    exact ⟨ret_str (by rw [HC.out]; rfl), rfl⟩
  replace h13 := Bool.eq_false_iff.2 h13
  by_cases h14 : (s.toList == [119, 105, 116, 110, 101, 115, 115]) = true
  · have HC := Lib.hid (show clW s = 6 by simp only [clW, h0, h1, h2, h3, h4, h5, h6, h7, h8, h9, h10, h11, h12, h13, h14, if_true, if_false, Bool.false_eq_true])
    by_cases hn : (n == 3) = true
    · have HN := Lib.hid hn
      go_enter Tryd.func13, Tryd.ntmps13
      go_wp2
      go_ret
      exact ⟨ret_str (by rw [HC.out]; simp only [frC, HN.out, if_true]), rfl⟩
    · replace hn := Bool.eq_false_iff.2 hn
      have HN := Lib.hid hn
      go_enter Tryd.func13, Tryd.ntmps13
      go_wp2
      go_ret
      exact ⟨ret_str (by rw [HC.out]; simp only [frC, HN.out, Bool.false_eq_true, if_false]), rfl⟩
  replace h14 := Bool.eq_false_iff.2 h14
  by_cases h15 : (s.toList == [97, 116]) = true
  · have HC := Lib.hid (show clW s = 7 by simp only [clW, h0, h1, h2, h3, h4, h5, h6, h7, h8, h9, h10, h11, h12, h13, h14, h15, if_true, if_false, Bool.false_eq_true])
    go_enter Tryd.func13, Tryd.ntmps13
    go_wp2
    go_ret
    exact ⟨ret_str (by rw [HC.out]; rfl), rfl⟩
  replace h15 := Bool.eq_false_iff.2 h15
  by_cases h16 : (s.toList == [115, 101, 97, 108, 101, 100]) = true
  · have HC := Lib.hid (show clW s = 7 by simp only [clW, h0, h1, h2, h3, h4, h5, h6, h7, h8, h9, h10, h11, h12, h13, h14, h15, h16, if_true, if_false, Bool.false_eq_true])
    go_enter Tryd.func13, Tryd.ntmps13
    go_wp2
    go_ret
    exact ⟨ret_str (by rw [HC.out]; rfl), rfl⟩
  replace h16 := Bool.eq_false_iff.2 h16
  by_cases h17 : (s.toList == [119, 114, 105, 116, 116, 101, 110]) = true
  · have HC := Lib.hid (show clW s = 7 by simp only [clW, h0, h1, h2, h3, h4, h5, h6, h7, h8, h9, h10, h11, h12, h13, h14, h15, h16, h17, if_true, if_false, Bool.false_eq_true])
    go_enter Tryd.func13, Tryd.ntmps13
    go_wp2
    go_ret
    exact ⟨ret_str (by rw [HC.out]; rfl), rfl⟩
  replace h17 := Bool.eq_false_iff.2 h17
  by_cases h18 : (s.toList == [99, 105, 116, 101, 115]) = true
  · have HC := Lib.hid (show clW s = 7 by simp only [clW, h0, h1, h2, h3, h4, h5, h6, h7, h8, h9, h10, h11, h12, h13, h14, h15, h16, h17, h18, if_true, if_false, Bool.false_eq_true])
    go_enter Tryd.func13, Tryd.ntmps13
    go_wp2
    go_ret
    exact ⟨ret_str (by rw [HC.out]; rfl), rfl⟩
  replace h18 := Bool.eq_false_iff.2 h18
  by_cases h19 : (s.toList == [115, 117, 115, 112, 101, 99, 116]) = true
  · have HC := Lib.hid (show clW s = 7 by simp only [clW, h0, h1, h2, h3, h4, h5, h6, h7, h8, h9, h10, h11, h12, h13, h14, h15, h16, h17, h18, h19, if_true, if_false, Bool.false_eq_true])
    go_enter Tryd.func13, Tryd.ntmps13
    go_wp2
    go_ret
    exact ⟨ret_str (by rw [HC.out]; rfl), rfl⟩
  replace h19 := Bool.eq_false_iff.2 h19
  by_cases h20 : (s.toList == [99, 108, 101, 97, 114]) = true
  · have HC := Lib.hid (show clW s = 7 by simp only [clW, h0, h1, h2, h3, h4, h5, h6, h7, h8, h9, h10, h11, h12, h13, h14, h15, h16, h17, h18, h19, h20, if_true, if_false, Bool.false_eq_true])
    go_enter Tryd.func13, Tryd.ntmps13
    go_wp2
    go_ret
    exact ⟨ret_str (by rw [HC.out]; rfl), rfl⟩
  replace h20 := Bool.eq_false_iff.2 h20
  by_cases h21 : (s.toList == [111, 114, 100, 101, 114]) = true
  · have HC := Lib.hid (show clW s = 8 by simp only [clW, h0, h1, h2, h3, h4, h5, h6, h7, h8, h9, h10, h11, h12, h13, h14, h15, h16, h17, h18, h19, h20, h21, if_true, if_false, Bool.false_eq_true])
    go_enter Tryd.func13, Tryd.ntmps13
    go_wp2
    go_ret
    exact ⟨ret_str (by rw [HC.out]; rfl), rfl⟩
  replace h21 := Bool.eq_false_iff.2 h21
  by_cases h22 : (s.toList == [99, 111, 110, 102, 108, 105, 99, 116]) = true
  · have HC := Lib.hid (show clW s = 8 by simp only [clW, h0, h1, h2, h3, h4, h5, h6, h7, h8, h9, h10, h11, h12, h13, h14, h15, h16, h17, h18, h19, h20, h21, h22, if_true, if_false, Bool.false_eq_true])
    go_enter Tryd.func13, Tryd.ntmps13
    go_wp2
    go_ret
    exact ⟨ret_str (by rw [HC.out]; rfl), rfl⟩
  replace h22 := Bool.eq_false_iff.2 h22
  by_cases h23 : (s.toList == [114, 101, 112, 97, 105, 114]) = true
  · have HC := Lib.hid (show clW s = 8 by simp only [clW, h0, h1, h2, h3, h4, h5, h6, h7, h8, h9, h10, h11, h12, h13, h14, h15, h16, h17, h18, h19, h20, h21, h22, h23, if_true, if_false, Bool.false_eq_true])
    go_enter Tryd.func13, Tryd.ntmps13
    go_wp2
    go_ret
    exact ⟨ret_str (by rw [HC.out]; rfl), rfl⟩
  replace h23 := Bool.eq_false_iff.2 h23
  by_cases h24 : (s.toList == [111, 112, 101, 110]) = true
  · have HC := Lib.hid (show clW s = 8 by simp only [clW, h0, h1, h2, h3, h4, h5, h6, h7, h8, h9, h10, h11, h12, h13, h14, h15, h16, h17, h18, h19, h20, h21, h22, h23, h24, if_true, if_false, Bool.false_eq_true])
    go_enter Tryd.func13, Tryd.ntmps13
    go_wp2
    go_ret
    exact ⟨ret_str (by rw [HC.out]; rfl), rfl⟩
  replace h24 := Bool.eq_false_iff.2 h24
  by_cases h25 : (s.toList == [101, 97, 115, 116, 101, 114]) = true
  · have HC := Lib.hid (show clW s = 9 by simp only [clW, h0, h1, h2, h3, h4, h5, h6, h7, h8, h9, h10, h11, h12, h13, h14, h15, h16, h17, h18, h19, h20, h21, h22, h23, h24, h25, if_true, if_false, Bool.false_eq_true])
    go_enter Tryd.func13, Tryd.ntmps13
    go_wp2
    go_ret
    exact ⟨ret_str (by rw [HC.out]; rfl), rfl⟩
  replace h25 := Bool.eq_false_iff.2 h25
  by_cases h26 : (s.toList == [100, 97, 116, 101]) = true
  · have HC := Lib.hid (show clW s = 9 by simp only [clW, h0, h1, h2, h3, h4, h5, h6, h7, h8, h9, h10, h11, h12, h13, h14, h15, h16, h17, h18, h19, h20, h21, h22, h23, h24, h25, h26, if_true, if_false, Bool.false_eq_true])
    go_enter Tryd.func13, Tryd.ntmps13
    go_wp2
    go_ret
    exact ⟨ret_str (by rw [HC.out]; rfl), rfl⟩
  replace h26 := Bool.eq_false_iff.2 h26
  by_cases h27 : (s.toList == [100, 101, 99, 105, 100, 101]) = true
  · have HC := Lib.hid (show clW s = 10 by simp only [clW, h0, h1, h2, h3, h4, h5, h6, h7, h8, h9, h10, h11, h12, h13, h14, h15, h16, h17, h18, h19, h20, h21, h22, h23, h24, h25, h26, h27, if_true, if_false, Bool.false_eq_true])
    go_enter Tryd.func13, Tryd.ntmps13
    go_wp2
    go_ret
    exact ⟨ret_str (by rw [HC.out]; rfl), rfl⟩
  replace h27 := Bool.eq_false_iff.2 h27
  · have HC := Lib.hid (show clW s = 11 by simp only [clW, h0, h1, h2, h3, h4, h5, h6, h7, h8, h9, h10, h11, h12, h13, h14, h15, h16, h17, h18, h19, h20, h21, h22, h23, h24, h25, h26, h27, if_false, Bool.false_eq_true])
    go_enter Tryd.func13, Tryd.ntmps13
    go_wp2
    go_ret
    exact ⟨ret_str (by rw [HC.out]; rfl), rfl⟩

set_option maxRecDepth 100000 in
set_option maxHeartbeats 4000000 in
theorem shapesOf_any (s : ByteArray) (w : World) :
    Calls Tryd.prog 9 #[.string s] w fun e w' => ∃ A c, e = .returned (.slice A (shC (clW s)).length c) ∧ RdT w' w.heap.size w'.heap.size A (shC (clW s)) ∧ Up w w' := by
  by_cases h0 : (s.toList == [114, 97, 110, 103, 101]) = true
  · have HC := Lib.hid (show clW s = 0 by simp only [clW, h0, if_true])
    have HR := Lib.hid (rd_lit w [⟨#[73, 73]⟩] (by decide))
    go_enter Tryd.func9, Tryd.ntmps9
    go_wp2
    go_ret
    exact ⟨_, _, by rw [HC.out]; rfl, by rw [HC.out]; simpa [shC] using HR.out, Up.alloc _ _⟩
  replace h0 := Bool.eq_false_iff.2 h0
  by_cases h1 : (s.toList == [107, 105, 110, 103]) = true
  · have HC := Lib.hid (show clW s = 1 by simp only [clW, h0, h1, if_true, if_false, Bool.false_eq_true])
    have HR := Lib.hid (rd_lit w [⟨#[78, 73, 73]⟩] (by decide))
    go_enter Tryd.func9, Tryd.ntmps9
    go_wp2
    go_ret
    exact ⟨_, _, by rw [HC.out]; rfl, by rw [HC.out]; simpa [shC] using HR.out, Up.alloc _ _⟩
  replace h1 := Bool.eq_false_iff.2 h1
  by_cases h2 : (s.toList == [112, 101, 114, 115, 111, 110]) = true
  · have HC := Lib.hid (show clW s = 1 by simp only [clW, h0, h1, h2, if_true, if_false, Bool.false_eq_true])
    have HR := Lib.hid (rd_lit w [⟨#[78, 73, 73]⟩] (by decide))
    go_enter Tryd.func9, Tryd.ntmps9
    go_wp2
    go_ret
    exact ⟨_, _, by rw [HC.out]; rfl, by rw [HC.out]; simpa [shC] using HR.out, Up.alloc _ _⟩
  replace h2 := Bool.eq_false_iff.2 h2
  by_cases h3 : (s.toList == [115, 101, 97, 108]) = true
  · have HC := Lib.hid (show clW s = 1 by simp only [clW, h0, h1, h2, h3, if_true, if_false, Bool.false_eq_true])
    have HR := Lib.hid (rd_lit w [⟨#[78, 73, 73]⟩] (by decide))
    go_enter Tryd.func9, Tryd.ntmps9
    go_wp2
    go_ret
    exact ⟨_, _, by rw [HC.out]; rfl, by rw [HC.out]; simpa [shC] using HR.out, Up.alloc _ _⟩
  replace h3 := Bool.eq_false_iff.2 h3
  by_cases h4 : (s.toList == [104, 97, 110, 100]) = true
  · have HC := Lib.hid (show clW s = 1 by simp only [clW, h0, h1, h2, h3, h4, if_true, if_false, Bool.false_eq_true])
    have HR := Lib.hid (rd_lit w [⟨#[78, 73, 73]⟩] (by decide))
    go_enter Tryd.func9, Tryd.ntmps9
    go_wp2
    go_ret
    exact ⟨_, _, by rw [HC.out]; rfl, by rw [HC.out]; simpa [shC] using HR.out, Up.alloc _ _⟩
  replace h4 := Bool.eq_false_iff.2 h4
  by_cases h5 : (s.toList == [116, 101, 114, 109]) = true
  · have HC := Lib.hid (show clW s = 2 by simp only [clW, h0, h1, h2, h3, h4, h5, if_true, if_false, Bool.false_eq_true])
    have HR := Lib.hid (rd_lit w [⟨#[78, 78, 73, 73]⟩] (by decide))
    go_enter Tryd.func9, Tryd.ntmps9
    go_wp2
    go_ret
    exact ⟨_, _, by rw [HC.out]; rfl, by rw [HC.out]; simpa [shC] using HR.out, Up.alloc _ _⟩
  replace h5 := Bool.eq_false_iff.2 h5
  by_cases h6 : (s.toList == [112, 108, 97, 99, 101]) = true
  · have HC := Lib.hid (show clW s = 3 by simp only [clW, h0, h1, h2, h3, h4, h5, h6, if_true, if_false, Bool.false_eq_true])
    have HR := Lib.hid (rd_lit w [⟨#[78]⟩] (by decide))
    go_enter Tryd.func9, Tryd.ntmps9
    go_wp2
    go_ret
    exact ⟨_, _, by rw [HC.out]; rfl, by rw [HC.out]; simpa [shC] using HR.out, Up.alloc _ _⟩
  replace h6 := Bool.eq_false_iff.2 h6
  by_cases h7 : (s.toList == [100, 101, 101, 100]) = true
  · have HC := Lib.hid (show clW s = 3 by simp only [clW, h0, h1, h2, h3, h4, h5, h6, h7, if_true, if_false, Bool.false_eq_true])
    have HR := Lib.hid (rd_lit w [⟨#[78]⟩] (by decide))
    go_enter Tryd.func9, Tryd.ntmps9
    go_wp2
    go_ret
    exact ⟨_, _, by rw [HC.out]; rfl, by rw [HC.out]; simpa [shC] using HR.out, Up.alloc _ _⟩
  replace h7 := Bool.eq_false_iff.2 h7
  by_cases h8 : (s.toList == [100, 97, 121, 115]) = true
  · have HC := Lib.hid (show clW s = 3 by simp only [clW, h0, h1, h2, h3, h4, h5, h6, h7, h8, if_true, if_false, Bool.false_eq_true])
    have HR := Lib.hid (rd_lit w [⟨#[78]⟩] (by decide))
    go_enter Tryd.func9, Tryd.ntmps9
    go_wp2
    go_ret
    exact ⟨_, _, by rw [HC.out]; rfl, by rw [HC.out]; simpa [shC] using HR.out, Up.alloc _ _⟩
  replace h8 := Bool.eq_false_iff.2 h8
  by_cases h9 : (s.toList == [100, 97, 116, 101, 100]) = true
  · have HC := Lib.hid (show clW s = 3 by simp only [clW, h0, h1, h2, h3, h4, h5, h6, h7, h8, h9, if_true, if_false, Bool.false_eq_true])
    have HR := Lib.hid (rd_lit w [⟨#[78]⟩] (by decide))
    go_enter Tryd.func9, Tryd.ntmps9
    go_wp2
    go_ret
    exact ⟨_, _, by rw [HC.out]; rfl, by rw [HC.out]; simpa [shC] using HR.out, Up.alloc _ _⟩
  replace h9 := Bool.eq_false_iff.2 h9
  by_cases h10 : (s.toList == [114, 101, 97, 115, 111, 110, 115]) = true
  · have HC := Lib.hid (show clW s = 3 by simp only [clW, h0, h1, h2, h3, h4, h5, h6, h7, h8, h9, h10, if_true, if_false, Bool.false_eq_true])
    have HR := Lib.hid (rd_lit w [⟨#[78]⟩] (by decide))
    go_enter Tryd.func9, Tryd.ntmps9
    go_wp2
    go_ret
    exact ⟨_, _, by rw [HC.out]; rfl, by rw [HC.out]; simpa [shC] using HR.out, Up.alloc _ _⟩
  replace h10 := Bool.eq_false_iff.2 h10
  by_cases h11 : (s.toList == [119, 97, 121]) = true
  · have HC := Lib.hid (show clW s = 4 by simp only [clW, h0, h1, h2, h3, h4, h5, h6, h7, h8, h9, h10, h11, if_true, if_false, Bool.false_eq_true])
    have HR := Lib.hid (rd_lit w [⟨#[73, 73, 73]⟩] (by decide))
    go_enter Tryd.func9, Tryd.ntmps9
    go_wp2
    go_ret
    exact ⟨_, _, by rw [HC.out]; rfl, by rw [HC.out]; simpa [shC] using HR.out, Up.alloc _ _⟩
  replace h11 := Bool.eq_false_iff.2 h11
  by_cases h12 : (s.toList == [115, 116, 97, 121]) = true
  · have HC := Lib.hid (show clW s = 4 by simp only [clW, h0, h1, h2, h3, h4, h5, h6, h7, h8, h9, h10, h11, h12, if_true, if_false, Bool.false_eq_true])
    have HR := Lib.hid (rd_lit w [⟨#[73, 73, 73]⟩] (by decide))
    go_enter Tryd.func9, Tryd.ntmps9
    go_wp2
    go_ret
    exact ⟨_, _, by rw [HC.out]; rfl, by rw [HC.out]; simpa [shC] using HR.out, Up.alloc _ _⟩
  replace h12 := Bool.eq_false_iff.2 h12
  by_cases h13 : (s.toList == [115, 97, 121]) = true
  · have HC := Lib.hid (show clW s = 5 by simp only [clW, h0, h1, h2, h3, h4, h5, h6, h7, h8, h9, h10, h11, h12, h13, if_true, if_false, Bool.false_eq_true])
    have HR := Lib.hid (rd_lit w [⟨#[78, 46]⟩] (by decide))
    go_enter Tryd.func9, Tryd.ntmps9
    go_wp2
    go_ret
    exact ⟨_, _, by rw [HC.out]; rfl, by rw [HC.out]; simpa [shC] using HR.out, Up.alloc _ _⟩
  replace h13 := Bool.eq_false_iff.2 h13
  by_cases h14 : (s.toList == [119, 105, 116, 110, 101, 115, 115]) = true
  · have HC := Lib.hid (show clW s = 6 by simp only [clW, h0, h1, h2, h3, h4, h5, h6, h7, h8, h9, h10, h11, h12, h13, h14, if_true, if_false, Bool.false_eq_true])
    have HR := Lib.hid (rd_lit w [⟨#[78, 78]⟩, ⟨#[78, 78, 78]⟩] (by decide))
    go_enter Tryd.func9, Tryd.ntmps9
    go_wp2
    go_ret
    exact ⟨_, _, by rw [HC.out]; rfl, by rw [HC.out]; simpa [shC] using HR.out, Up.alloc _ _⟩
  replace h14 := Bool.eq_false_iff.2 h14
  by_cases h15 : (s.toList == [97, 116]) = true
  · have HC := Lib.hid (show clW s = 7 by simp only [clW, h0, h1, h2, h3, h4, h5, h6, h7, h8, h9, h10, h11, h12, h13, h14, h15, if_true, if_false, Bool.false_eq_true])
    have HR := Lib.hid (rd_lit w [⟨#[78, 78]⟩] (by decide))
    go_enter Tryd.func9, Tryd.ntmps9
    go_wp2
    go_ret
    exact ⟨_, _, by rw [HC.out]; rfl, by rw [HC.out]; simpa [shC] using HR.out, Up.alloc _ _⟩
  replace h15 := Bool.eq_false_iff.2 h15
  by_cases h16 : (s.toList == [115, 101, 97, 108, 101, 100]) = true
  · have HC := Lib.hid (show clW s = 7 by simp only [clW, h0, h1, h2, h3, h4, h5, h6, h7, h8, h9, h10, h11, h12, h13, h14, h15, h16, if_true, if_false, Bool.false_eq_true])
    have HR := Lib.hid (rd_lit w [⟨#[78, 78]⟩] (by decide))
    go_enter Tryd.func9, Tryd.ntmps9
    go_wp2
    go_ret
    exact ⟨_, _, by rw [HC.out]; rfl, by rw [HC.out]; simpa [shC] using HR.out, Up.alloc _ _⟩
  replace h16 := Bool.eq_false_iff.2 h16
  by_cases h17 : (s.toList == [119, 114, 105, 116, 116, 101, 110]) = true
  · have HC := Lib.hid (show clW s = 7 by simp only [clW, h0, h1, h2, h3, h4, h5, h6, h7, h8, h9, h10, h11, h12, h13, h14, h15, h16, h17, if_true, if_false, Bool.false_eq_true])
    have HR := Lib.hid (rd_lit w [⟨#[78, 78]⟩] (by decide))
    go_enter Tryd.func9, Tryd.ntmps9
    go_wp2
    go_ret
    exact ⟨_, _, by rw [HC.out]; rfl, by rw [HC.out]; simpa [shC] using HR.out, Up.alloc _ _⟩
  replace h17 := Bool.eq_false_iff.2 h17
  by_cases h18 : (s.toList == [99, 105, 116, 101, 115]) = true
  · have HC := Lib.hid (show clW s = 7 by simp only [clW, h0, h1, h2, h3, h4, h5, h6, h7, h8, h9, h10, h11, h12, h13, h14, h15, h16, h17, h18, if_true, if_false, Bool.false_eq_true])
    have HR := Lib.hid (rd_lit w [⟨#[78, 78]⟩] (by decide))
    go_enter Tryd.func9, Tryd.ntmps9
    go_wp2
    go_ret
    exact ⟨_, _, by rw [HC.out]; rfl, by rw [HC.out]; simpa [shC] using HR.out, Up.alloc _ _⟩
  replace h18 := Bool.eq_false_iff.2 h18
  by_cases h19 : (s.toList == [115, 117, 115, 112, 101, 99, 116]) = true
  · have HC := Lib.hid (show clW s = 7 by simp only [clW, h0, h1, h2, h3, h4, h5, h6, h7, h8, h9, h10, h11, h12, h13, h14, h15, h16, h17, h18, h19, if_true, if_false, Bool.false_eq_true])
    have HR := Lib.hid (rd_lit w [⟨#[78, 78]⟩] (by decide))
    go_enter Tryd.func9, Tryd.ntmps9
    go_wp2
    go_ret
    exact ⟨_, _, by rw [HC.out]; rfl, by rw [HC.out]; simpa [shC] using HR.out, Up.alloc _ _⟩
  replace h19 := Bool.eq_false_iff.2 h19
  by_cases h20 : (s.toList == [99, 108, 101, 97, 114]) = true
  · have HC := Lib.hid (show clW s = 7 by simp only [clW, h0, h1, h2, h3, h4, h5, h6, h7, h8, h9, h10, h11, h12, h13, h14, h15, h16, h17, h18, h19, h20, if_true, if_false, Bool.false_eq_true])
    have HR := Lib.hid (rd_lit w [⟨#[78, 78]⟩] (by decide))
    go_enter Tryd.func9, Tryd.ntmps9
    go_wp2
    go_ret
    exact ⟨_, _, by rw [HC.out]; rfl, by rw [HC.out]; simpa [shC] using HR.out, Up.alloc _ _⟩
  replace h20 := Bool.eq_false_iff.2 h20
  by_cases h21 : (s.toList == [111, 114, 100, 101, 114]) = true
  · have HC := Lib.hid (show clW s = 8 by simp only [clW, h0, h1, h2, h3, h4, h5, h6, h7, h8, h9, h10, h11, h12, h13, h14, h15, h16, h17, h18, h19, h20, h21, if_true, if_false, Bool.false_eq_true])
    have HR := Lib.hid (rd_lit w [⟨#[]⟩] (by decide))
    go_enter Tryd.func9, Tryd.ntmps9
    go_wp2
    go_ret
    exact ⟨_, _, by rw [HC.out]; rfl, by rw [HC.out]; simpa [shC] using HR.out, Up.alloc _ _⟩
  replace h21 := Bool.eq_false_iff.2 h21
  by_cases h22 : (s.toList == [99, 111, 110, 102, 108, 105, 99, 116]) = true
  · have HC := Lib.hid (show clW s = 8 by simp only [clW, h0, h1, h2, h3, h4, h5, h6, h7, h8, h9, h10, h11, h12, h13, h14, h15, h16, h17, h18, h19, h20, h21, h22, if_true, if_false, Bool.false_eq_true])
    have HR := Lib.hid (rd_lit w [⟨#[]⟩] (by decide))
    go_enter Tryd.func9, Tryd.ntmps9
    go_wp2
    go_ret
    exact ⟨_, _, by rw [HC.out]; rfl, by rw [HC.out]; simpa [shC] using HR.out, Up.alloc _ _⟩
  replace h22 := Bool.eq_false_iff.2 h22
  by_cases h23 : (s.toList == [114, 101, 112, 97, 105, 114]) = true
  · have HC := Lib.hid (show clW s = 8 by simp only [clW, h0, h1, h2, h3, h4, h5, h6, h7, h8, h9, h10, h11, h12, h13, h14, h15, h16, h17, h18, h19, h20, h21, h22, h23, if_true, if_false, Bool.false_eq_true])
    have HR := Lib.hid (rd_lit w [⟨#[]⟩] (by decide))
    go_enter Tryd.func9, Tryd.ntmps9
    go_wp2
    go_ret
    exact ⟨_, _, by rw [HC.out]; rfl, by rw [HC.out]; simpa [shC] using HR.out, Up.alloc _ _⟩
  replace h23 := Bool.eq_false_iff.2 h23
  by_cases h24 : (s.toList == [111, 112, 101, 110]) = true
  · have HC := Lib.hid (show clW s = 8 by simp only [clW, h0, h1, h2, h3, h4, h5, h6, h7, h8, h9, h10, h11, h12, h13, h14, h15, h16, h17, h18, h19, h20, h21, h22, h23, h24, if_true, if_false, Bool.false_eq_true])
    have HR := Lib.hid (rd_lit w [⟨#[]⟩] (by decide))
    go_enter Tryd.func9, Tryd.ntmps9
    go_wp2
    go_ret
    exact ⟨_, _, by rw [HC.out]; rfl, by rw [HC.out]; simpa [shC] using HR.out, Up.alloc _ _⟩
  replace h24 := Bool.eq_false_iff.2 h24
  by_cases h25 : (s.toList == [101, 97, 115, 116, 101, 114]) = true
  · have HC := Lib.hid (show clW s = 9 by simp only [clW, h0, h1, h2, h3, h4, h5, h6, h7, h8, h9, h10, h11, h12, h13, h14, h15, h16, h17, h18, h19, h20, h21, h22, h23, h24, h25, if_true, if_false, Bool.false_eq_true])
    have HR := Lib.hid (rd_lit w [⟨#[73]⟩] (by decide))
    go_enter Tryd.func9, Tryd.ntmps9
    go_wp2
    go_ret
    exact ⟨_, _, by rw [HC.out]; rfl, by rw [HC.out]; simpa [shC] using HR.out, Up.alloc _ _⟩
  replace h25 := Bool.eq_false_iff.2 h25
  by_cases h26 : (s.toList == [100, 97, 116, 101]) = true
  · have HC := Lib.hid (show clW s = 9 by simp only [clW, h0, h1, h2, h3, h4, h5, h6, h7, h8, h9, h10, h11, h12, h13, h14, h15, h16, h17, h18, h19, h20, h21, h22, h23, h24, h25, h26, if_true, if_false, Bool.false_eq_true])
    have HR := Lib.hid (rd_lit w [⟨#[73]⟩] (by decide))
    go_enter Tryd.func9, Tryd.ntmps9
    go_wp2
    go_ret
    exact ⟨_, _, by rw [HC.out]; rfl, by rw [HC.out]; simpa [shC] using HR.out, Up.alloc _ _⟩
  replace h26 := Bool.eq_false_iff.2 h26
  by_cases h27 : (s.toList == [100, 101, 99, 105, 100, 101]) = true
  · have HC := Lib.hid (show clW s = 10 by simp only [clW, h0, h1, h2, h3, h4, h5, h6, h7, h8, h9, h10, h11, h12, h13, h14, h15, h16, h17, h18, h19, h20, h21, h22, h23, h24, h25, h26, h27, if_true, if_false, Bool.false_eq_true])
    have HR := Lib.hid (rd_lit w [⟨#[78, 73, 78]⟩] (by decide))
    go_enter Tryd.func9, Tryd.ntmps9
    go_wp2
    go_ret
    exact ⟨_, _, by rw [HC.out]; rfl, by rw [HC.out]; simpa [shC] using HR.out, Up.alloc _ _⟩
  replace h27 := Bool.eq_false_iff.2 h27
  · have HC := Lib.hid (show clW s = 11 by simp only [clW, h0, h1, h2, h3, h4, h5, h6, h7, h8, h9, h10, h11, h12, h13, h14, h15, h16, h17, h18, h19, h20, h21, h22, h23, h24, h25, h26, h27, if_false, Bool.false_eq_true])
    go_enter Tryd.func9, Tryd.ntmps9
    go_wp2
    go_ret
    exact ⟨none, 0, by rw [HC.out]; rfl, by rw [HC.out]; exact fun h => absurd rfl h, Up.refl _⟩
end Go.Proofs.YtehoaoeahfmfpaaDoor
