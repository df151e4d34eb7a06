/- MADE BY PROGRAM (extgen.py): extending twice is extending once; wrapping takes it back. -/
import Derived.Test.YtoegodeglgeomaaDoorUDivNum
namespace Go.Proofs.YtoegodeglgeomaaDoor
open Go
namespace Sh

def n_extend8_s : ByteArray := ⟨#[101, 120, 116, 101, 110, 100, 56, 95, 115]⟩

set_option maxRecDepth 100000 in
theorem c_hp54_extend8_s : SpecD S 54 [.str n_extend8_s, .str ⟨#[101, 120, 116, 101, 110, 100]⟩] [] (.bool true) [] := by
  refine specE ok sh54 rfl ?_
  conv => whnf
  refine ⟨by decide, by decide, by decide, ?_⟩
  conv => whnf
  exact end_of [] (by rfl) (by rfl) (by rfl) (by exact ⟨rfl, rfl⟩)

set_option maxRecDepth 100000 in
theorem c_hp_extend8_s : SpecD S 42 [.str n_extend8_s, .str ⟨#[101, 120, 116, 101, 110, 100]⟩] [] (.bool true) [] := by
  refine specE ok sh42 rfl ?_
  conv => whnf
  refine call_of [] (c_hp54_extend8_s) (by rfl) (by rfl) ?_
  conv => whnf
  exact end_of [] (by rfl) (by rfl) (by rfl) (by exact ⟨rfl, rfl⟩)

set_option maxRecDepth 100000 in
theorem c_ar_extend8_s : SpecD S 27 [.str n_extend8_s] [] (.int .i64 1) [] := by
  refine specE ok sh27 rfl ?_
  conv => whnf
  refine call_of [] (c_hp_extend8_s) (by rfl) (by rfl) ?_
  conv => whnf
  exact end_of [] (by rfl) (by rfl) (by rfl) (by exact ⟨rfl, rfl⟩)

set_option maxRecDepth 100000 in
theorem c_u64_extend8_s (A : Int) : SpecD S 35 [.str n_extend8_s, .int .u64 A] [] (.int .u64 (IntKind.u64.wrap (IntKind.i8.wrap A))) [] := by
  refine specE ok sh35 rfl ?_
  conv => whnf
  exact end_of [] (by rfl) (by rfl) (by rfl) (by exact ⟨rfl, rfl⟩)

set_option maxRecDepth 100000 in
theorem c_u32_extend8_s (A : Int) : SpecD S 36 [.str n_extend8_s, .int .u32 A] [] (.int .u64 (IntKind.u64.wrap (IntKind.u32.wrap (IntKind.i8.wrap A)))) [] := by
  refine specE ok sh36 rfl ?_
  conv => whnf
  exact end_of [] (by rfl) (by rfl) (by rfl) (by exact ⟨rfl, rfl⟩)

def n_extend16_s : ByteArray := ⟨#[101, 120, 116, 101, 110, 100, 49, 54, 95, 115]⟩

set_option maxRecDepth 100000 in
theorem c_hp54_extend16_s : SpecD S 54 [.str n_extend16_s, .str ⟨#[101, 120, 116, 101, 110, 100]⟩] [] (.bool true) [] := by
  refine specE ok sh54 rfl ?_
  conv => whnf
  refine ⟨by decide, by decide, by decide, ?_⟩
  conv => whnf
  exact end_of [] (by rfl) (by rfl) (by rfl) (by exact ⟨rfl, rfl⟩)

set_option maxRecDepth 100000 in
theorem c_hp_extend16_s : SpecD S 42 [.str n_extend16_s, .str ⟨#[101, 120, 116, 101, 110, 100]⟩] [] (.bool true) [] := by
  refine specE ok sh42 rfl ?_
  conv => whnf
  refine call_of [] (c_hp54_extend16_s) (by rfl) (by rfl) ?_
  conv => whnf
  exact end_of [] (by rfl) (by rfl) (by rfl) (by exact ⟨rfl, rfl⟩)

set_option maxRecDepth 100000 in
theorem c_ar_extend16_s : SpecD S 27 [.str n_extend16_s] [] (.int .i64 1) [] := by
  refine specE ok sh27 rfl ?_
  conv => whnf
  refine call_of [] (c_hp_extend16_s) (by rfl) (by rfl) ?_
  conv => whnf
  exact end_of [] (by rfl) (by rfl) (by rfl) (by exact ⟨rfl, rfl⟩)

set_option maxRecDepth 100000 in
theorem c_u64_extend16_s (A : Int) : SpecD S 35 [.str n_extend16_s, .int .u64 A] [] (.int .u64 (IntKind.u64.wrap (IntKind.i16.wrap A))) [] := by
  refine specE ok sh35 rfl ?_
  conv => whnf
  exact end_of [] (by rfl) (by rfl) (by rfl) (by exact ⟨rfl, rfl⟩)

set_option maxRecDepth 100000 in
theorem c_u32_extend16_s (A : Int) : SpecD S 36 [.str n_extend16_s, .int .u32 A] [] (.int .u64 (IntKind.u64.wrap (IntKind.u32.wrap (IntKind.i16.wrap A)))) [] := by
  refine specE ok sh36 rfl ?_
  conv => whnf
  exact end_of [] (by rfl) (by rfl) (by rfl) (by exact ⟨rfl, rfl⟩)

def n_extend32_s : ByteArray := ⟨#[101, 120, 116, 101, 110, 100, 51, 50, 95, 115]⟩

set_option maxRecDepth 100000 in
theorem c_hp54_extend32_s : SpecD S 54 [.str n_extend32_s, .str ⟨#[101, 120, 116, 101, 110, 100]⟩] [] (.bool true) [] := by
  refine specE ok sh54 rfl ?_
  conv => whnf
  refine ⟨by decide, by decide, by decide, ?_⟩
  conv => whnf
  exact end_of [] (by rfl) (by rfl) (by rfl) (by exact ⟨rfl, rfl⟩)

set_option maxRecDepth 100000 in
theorem c_hp_extend32_s : SpecD S 42 [.str n_extend32_s, .str ⟨#[101, 120, 116, 101, 110, 100]⟩] [] (.bool true) [] := by
  refine specE ok sh42 rfl ?_
  conv => whnf
  refine call_of [] (c_hp54_extend32_s) (by rfl) (by rfl) ?_
  conv => whnf
  exact end_of [] (by rfl) (by rfl) (by rfl) (by exact ⟨rfl, rfl⟩)

set_option maxRecDepth 100000 in
theorem c_ar_extend32_s : SpecD S 27 [.str n_extend32_s] [] (.int .i64 1) [] := by
  refine specE ok sh27 rfl ?_
  conv => whnf
  refine call_of [] (c_hp_extend32_s) (by rfl) (by rfl) ?_
  conv => whnf
  exact end_of [] (by rfl) (by rfl) (by rfl) (by exact ⟨rfl, rfl⟩)

set_option maxRecDepth 100000 in
theorem c_u64_extend32_s (A : Int) : SpecD S 35 [.str n_extend32_s, .int .u64 A] [] (.int .u64 (IntKind.u64.wrap (IntKind.i32.wrap A))) [] := by
  refine specE ok sh35 rfl ?_
  conv => whnf
  exact end_of [] (by rfl) (by rfl) (by rfl) (by exact ⟨rfl, rfl⟩)

def n_extend_i32_s : ByteArray := ⟨#[101, 120, 116, 101, 110, 100, 95, 105, 51, 50, 95, 115]⟩

set_option maxRecDepth 100000 in
theorem c_hp54_extend_i32_s : SpecD S 54 [.str n_extend_i32_s, .str ⟨#[101, 120, 116, 101, 110, 100]⟩] [] (.bool true) [] := by
  refine specE ok sh54 rfl ?_
  conv => whnf
  refine ⟨by decide, by decide, by decide, ?_⟩
  conv => whnf
  exact end_of [] (by rfl) (by rfl) (by rfl) (by exact ⟨rfl, rfl⟩)

set_option maxRecDepth 100000 in
theorem c_hp_extend_i32_s : SpecD S 42 [.str n_extend_i32_s, .str ⟨#[101, 120, 116, 101, 110, 100]⟩] [] (.bool true) [] := by
  refine specE ok sh42 rfl ?_
  conv => whnf
  refine call_of [] (c_hp54_extend_i32_s) (by rfl) (by rfl) ?_
  conv => whnf
  exact end_of [] (by rfl) (by rfl) (by rfl) (by exact ⟨rfl, rfl⟩)

set_option maxRecDepth 100000 in
theorem c_ar_extend_i32_s : SpecD S 27 [.str n_extend_i32_s] [] (.int .i64 1) [] := by
  refine specE ok sh27 rfl ?_
  conv => whnf
  refine call_of [] (c_hp_extend_i32_s) (by rfl) (by rfl) ?_
  conv => whnf
  exact end_of [] (by rfl) (by rfl) (by rfl) (by exact ⟨rfl, rfl⟩)

set_option maxRecDepth 100000 in
theorem c_u32_extend_i32_s (A : Int) : SpecD S 36 [.str n_extend_i32_s, .int .u32 A] [] (.int .u64 (IntKind.u64.wrap (IntKind.i32.wrap A))) [] := by
  refine specE ok sh36 rfl ?_
  conv => whnf
  exact end_of [] (by rfl) (by rfl) (by rfl) (by exact ⟨rfl, rfl⟩)

def n_extend_i32_u : ByteArray := ⟨#[101, 120, 116, 101, 110, 100, 95, 105, 51, 50, 95, 117]⟩

set_option maxRecDepth 100000 in
theorem c_hp54_extend_i32_u : SpecD S 54 [.str n_extend_i32_u, .str ⟨#[101, 120, 116, 101, 110, 100]⟩] [] (.bool true) [] := by
  refine specE ok sh54 rfl ?_
  conv => whnf
  refine ⟨by decide, by decide, by decide, ?_⟩
  conv => whnf
  exact end_of [] (by rfl) (by rfl) (by rfl) (by exact ⟨rfl, rfl⟩)

set_option maxRecDepth 100000 in
theorem c_hp_extend_i32_u : SpecD S 42 [.str n_extend_i32_u, .str ⟨#[101, 120, 116, 101, 110, 100]⟩] [] (.bool true) [] := by
  refine specE ok sh42 rfl ?_
  conv => whnf
  refine call_of [] (c_hp54_extend_i32_u) (by rfl) (by rfl) ?_
  conv => whnf
  exact end_of [] (by rfl) (by rfl) (by rfl) (by exact ⟨rfl, rfl⟩)

set_option maxRecDepth 100000 in
theorem c_ar_extend_i32_u : SpecD S 27 [.str n_extend_i32_u] [] (.int .i64 1) [] := by
  refine specE ok sh27 rfl ?_
  conv => whnf
  refine call_of [] (c_hp_extend_i32_u) (by rfl) (by rfl) ?_
  conv => whnf
  exact end_of [] (by rfl) (by rfl) (by rfl) (by exact ⟨rfl, rfl⟩)

set_option maxRecDepth 100000 in
theorem c_u32_extend_i32_u (A : Int) : SpecD S 36 [.str n_extend_i32_u, .int .u32 A] [] (.int .u64 (IntKind.u64.wrap A)) [] := by
  refine specE ok sh36 rfl ?_
  conv => whnf
  exact end_of [] (by rfl) (by rfl) (by rfl) (by exact ⟨rfl, rfl⟩)

def n_wrap_i64 : ByteArray := ⟨#[119, 114, 97, 112, 95, 105, 54, 52]⟩

set_option maxRecDepth 100000 in
theorem c_hp54_wrap_i64 : SpecD S 54 [.str n_wrap_i64, .str ⟨#[101, 120, 116, 101, 110, 100]⟩] [] (.bool false) [] := by
  refine specE ok sh54 rfl ?_
  conv => whnf
  refine ⟨by decide, by decide, by decide, ?_⟩
  conv => whnf
  exact end_of [] (by rfl) (by rfl) (by rfl) (by exact ⟨rfl, rfl⟩)

set_option maxRecDepth 100000 in
theorem c_hp_wrap_i64 : SpecD S 42 [.str n_wrap_i64, .str ⟨#[101, 120, 116, 101, 110, 100]⟩] [] (.bool false) [] := by
  refine specE ok sh42 rfl ?_
  conv => whnf
  refine call_of [] (c_hp54_wrap_i64) (by rfl) (by rfl) ?_
  conv => whnf
  exact end_of [] (by rfl) (by rfl) (by rfl) (by exact ⟨rfl, rfl⟩)

set_option maxRecDepth 100000 in
theorem c_ar_wrap_i64 : SpecD S 27 [.str n_wrap_i64] [] (.int .i64 1) [] := by
  refine specE ok sh27 rfl ?_
  conv => whnf
  refine call_of [] (c_hp_wrap_i64) (by rfl) (by rfl) ?_
  conv => whnf
  exact end_of [] (by rfl) (by rfl) (by rfl) (by exact ⟨rfl, rfl⟩)

set_option maxRecDepth 100000 in
theorem c_u64_wrap_i64 (A : Int) : SpecD S 35 [.str n_wrap_i64, .int .u64 A] [] (.int .u64 (IntKind.u64.wrap (IntKind.u32.wrap A))) [] := by
  refine specE ok sh35 rfl ?_
  conv => whnf
  exact end_of [] (by rfl) (by rfl) (by rfl) (by exact ⟨rfl, rfl⟩)

theorem wrap_i8' (n : Int) : IntKind.i8.wrap n = (n + 128) % 256 - 128 := by
  simp [IntKind.wrap, IntKind.bits, IntKind.signed]
  split <;> omega

theorem wrap_i16' (n : Int) : IntKind.i16.wrap n = (n + 32768) % 65536 - 32768 := by
  simp [IntKind.wrap, IntKind.bits, IntKind.signed]
  split <;> omega

abbrev Un (op a n : Int) : Prop := SpecD S 24 [.int .i64 op, .int .u64 a] [] (.tup [.int .u64 n, .int .i64 0]) []

theorem c_fd_192 : SpecD S 26 [.int .i64 192] [] (.tup [.str n_extend8_s, .bool false]) [] := by
  have := c_find 192
  rw [show findL 192 GS = (n_extend8_s, false) by kernel_rfl] at this
  exact this

set_option maxRecDepth 100000 in
theorem c_un_192 (a : Int) : Un 192 a (IntKind.u64.wrap (IntKind.u32.wrap (IntKind.i8.wrap (IntKind.u32.wrap a)))) := by
  refine specE ok sh24 rfl ?_
  conv => whnf
  refine call_of [] (c_fd_192) (by rfl) (by rfl) ?_
  conv => whnf
  refine call_of [] (c_ar_extend8_s) (by rfl) (by rfl) ?_
  conv => whnf
  refine call_of [] (c_u32_extend8_s (IntKind.u32.wrap a)) (by rfl) (by rfl) ?_
  conv => whnf
  exact end_of [] (by rfl) (by rfl) (by rfl) (by exact ⟨rfl, rfl⟩)

theorem c_fd_193 : SpecD S 26 [.int .i64 193] [] (.tup [.str n_extend16_s, .bool false]) [] := by
  have := c_find 193
  rw [show findL 193 GS = (n_extend16_s, false) by kernel_rfl] at this
  exact this

set_option maxRecDepth 100000 in
theorem c_un_193 (a : Int) : Un 193 a (IntKind.u64.wrap (IntKind.u32.wrap (IntKind.i16.wrap (IntKind.u32.wrap a)))) := by
  refine specE ok sh24 rfl ?_
  conv => whnf
  refine call_of [] (c_fd_193) (by rfl) (by rfl) ?_
  conv => whnf
  refine call_of [] (c_ar_extend16_s) (by rfl) (by rfl) ?_
  conv => whnf
  refine call_of [] (c_u32_extend16_s (IntKind.u32.wrap a)) (by rfl) (by rfl) ?_
  conv => whnf
  exact end_of [] (by rfl) (by rfl) (by rfl) (by exact ⟨rfl, rfl⟩)

theorem c_fd_194 : SpecD S 26 [.int .i64 194] [] (.tup [.str n_extend8_s, .bool true]) [] := by
  have := c_find 194
  rw [show findL 194 GS = (n_extend8_s, true) by kernel_rfl] at this
  exact this

set_option maxRecDepth 100000 in
theorem c_un_194 (a : Int) : Un 194 a (IntKind.u64.wrap (IntKind.i8.wrap a)) := by
  refine specE ok sh24 rfl ?_
  conv => whnf
  refine call_of [] (c_fd_194) (by rfl) (by rfl) ?_
  conv => whnf
  refine call_of [] (c_ar_extend8_s) (by rfl) (by rfl) ?_
  conv => whnf
  refine call_of [] (c_u64_extend8_s a) (by rfl) (by rfl) ?_
  conv => whnf
  exact end_of [] (by rfl) (by rfl) (by rfl) (by exact ⟨rfl, rfl⟩)

theorem c_fd_195 : SpecD S 26 [.int .i64 195] [] (.tup [.str n_extend16_s, .bool true]) [] := by
  have := c_find 195
  rw [show findL 195 GS = (n_extend16_s, true) by kernel_rfl] at this
  exact this

set_option maxRecDepth 100000 in
theorem c_un_195 (a : Int) : Un 195 a (IntKind.u64.wrap (IntKind.i16.wrap a)) := by
  refine specE ok sh24 rfl ?_
  conv => whnf
  refine call_of [] (c_fd_195) (by rfl) (by rfl) ?_
  conv => whnf
  refine call_of [] (c_ar_extend16_s) (by rfl) (by rfl) ?_
  conv => whnf
  refine call_of [] (c_u64_extend16_s a) (by rfl) (by rfl) ?_
  conv => whnf
  exact end_of [] (by rfl) (by rfl) (by rfl) (by exact ⟨rfl, rfl⟩)

theorem c_fd_196 : SpecD S 26 [.int .i64 196] [] (.tup [.str n_extend32_s, .bool true]) [] := by
  have := c_find 196
  rw [show findL 196 GS = (n_extend32_s, true) by kernel_rfl] at this
  exact this

set_option maxRecDepth 100000 in
theorem c_un_196 (a : Int) : Un 196 a (IntKind.u64.wrap (IntKind.i32.wrap a)) := by
  refine specE ok sh24 rfl ?_
  conv => whnf
  refine call_of [] (c_fd_196) (by rfl) (by rfl) ?_
  conv => whnf
  refine call_of [] (c_ar_extend32_s) (by rfl) (by rfl) ?_
  conv => whnf
  refine call_of [] (c_u64_extend32_s a) (by rfl) (by rfl) ?_
  conv => whnf
  exact end_of [] (by rfl) (by rfl) (by rfl) (by exact ⟨rfl, rfl⟩)

theorem c_fd_172 : SpecD S 26 [.int .i64 172] [] (.tup [.str n_extend_i32_s, .bool false]) [] := by
  have := c_find 172
  rw [show findL 172 GS = (n_extend_i32_s, false) by kernel_rfl] at this
  exact this

set_option maxRecDepth 100000 in
theorem c_un_172 (a : Int) : Un 172 a (IntKind.u64.wrap (IntKind.i32.wrap (IntKind.u32.wrap a))) := by
  refine specE ok sh24 rfl ?_
  conv => whnf
  refine call_of [] (c_fd_172) (by rfl) (by rfl) ?_
  conv => whnf
  refine call_of [] (c_ar_extend_i32_s) (by rfl) (by rfl) ?_
  conv => whnf
  refine call_of [] (c_u32_extend_i32_s (IntKind.u32.wrap a)) (by rfl) (by rfl) ?_
  conv => whnf
  exact end_of [] (by rfl) (by rfl) (by rfl) (by exact ⟨rfl, rfl⟩)

theorem c_fd_173 : SpecD S 26 [.int .i64 173] [] (.tup [.str n_extend_i32_u, .bool false]) [] := by
  have := c_find 173
  rw [show findL 173 GS = (n_extend_i32_u, false) by kernel_rfl] at this
  exact this

set_option maxRecDepth 100000 in
theorem c_un_173 (a : Int) : Un 173 a (IntKind.u64.wrap (IntKind.u32.wrap a)) := by
  refine specE ok sh24 rfl ?_
  conv => whnf
  refine call_of [] (c_fd_173) (by rfl) (by rfl) ?_
  conv => whnf
  refine call_of [] (c_ar_extend_i32_u) (by rfl) (by rfl) ?_
  conv => whnf
  refine call_of [] (c_u32_extend_i32_u (IntKind.u32.wrap a)) (by rfl) (by rfl) ?_
  conv => whnf
  exact end_of [] (by rfl) (by rfl) (by rfl) (by exact ⟨rfl, rfl⟩)

theorem c_fd_167 : SpecD S 26 [.int .i64 167] [] (.tup [.str n_wrap_i64, .bool true]) [] := by
  have := c_find 167
  rw [show findL 167 GS = (n_wrap_i64, true) by kernel_rfl] at this
  exact this

set_option maxRecDepth 100000 in
theorem c_un_167 (a : Int) : Un 167 a (IntKind.u64.wrap (IntKind.u32.wrap a)) := by
  refine specE ok sh24 rfl ?_
  conv => whnf
  refine call_of [] (c_fd_167) (by rfl) (by rfl) ?_
  conv => whnf
  refine call_of [] (c_ar_wrap_i64) (by rfl) (by rfl) ?_
  conv => whnf
  refine call_of [] (c_u64_wrap_i64 a) (by rfl) (by rfl) ?_
  conv => whnf
  exact end_of [] (by rfl) (by rfl) (by rfl) (by exact ⟨rfl, rfl⟩)

def opsX : List Int := [192, 193, 194, 195, 196]

theorem twice (a : Int) : ∀ j, j < 5 → ∃ n, Un (opsX.getD j 0) a n ∧ Un (opsX.getD j 0) n n := by
  intro j hj
  match j, hj with
  | 0, _ => exact ⟨_, c_un_192 a, by
      have h := c_un_192 (IntKind.u64.wrap (IntKind.u32.wrap (IntKind.i8.wrap (IntKind.u32.wrap a))))
      rw [show IntKind.u64.wrap (IntKind.u32.wrap (IntKind.i8.wrap (IntKind.u32.wrap (IntKind.u64.wrap (IntKind.u32.wrap (IntKind.i8.wrap (IntKind.u32.wrap a))))))) = IntKind.u64.wrap (IntKind.u32.wrap (IntKind.i8.wrap (IntKind.u32.wrap a))) by
        simp only [IntKind.wrap_u64, IntKind.wrap_u32, wrap_i8']; omega] at h
      exact h⟩
  | 1, _ => exact ⟨_, c_un_193 a, by
      have h := c_un_193 (IntKind.u64.wrap (IntKind.u32.wrap (IntKind.i16.wrap (IntKind.u32.wrap a))))
      rw [show IntKind.u64.wrap (IntKind.u32.wrap (IntKind.i16.wrap (IntKind.u32.wrap (IntKind.u64.wrap (IntKind.u32.wrap (IntKind.i16.wrap (IntKind.u32.wrap a))))))) = IntKind.u64.wrap (IntKind.u32.wrap (IntKind.i16.wrap (IntKind.u32.wrap a))) by
        simp only [IntKind.wrap_u64, IntKind.wrap_u32, wrap_i16']; omega] at h
      exact h⟩
  | 2, _ => exact ⟨_, c_un_194 a, by
      have h := c_un_194 (IntKind.u64.wrap (IntKind.i8.wrap a))
      rw [show IntKind.u64.wrap (IntKind.i8.wrap (IntKind.u64.wrap (IntKind.i8.wrap a))) = IntKind.u64.wrap (IntKind.i8.wrap a) by
        simp only [IntKind.wrap_u64, wrap_i8']; omega] at h
      exact h⟩
  | 3, _ => exact ⟨_, c_un_195 a, by
      have h := c_un_195 (IntKind.u64.wrap (IntKind.i16.wrap a))
      rw [show IntKind.u64.wrap (IntKind.i16.wrap (IntKind.u64.wrap (IntKind.i16.wrap a))) = IntKind.u64.wrap (IntKind.i16.wrap a) by
        simp only [IntKind.wrap_u64, wrap_i16']; omega] at h
      exact h⟩
  | 4, _ => exact ⟨_, c_un_196 a, by
      have h := c_un_196 (IntKind.u64.wrap (IntKind.i32.wrap a))
      rw [show IntKind.u64.wrap (IntKind.i32.wrap (IntKind.u64.wrap (IntKind.i32.wrap a))) = IntKind.u64.wrap (IntKind.i32.wrap a) by
        simp only [IntKind.wrap_u64, IntKind.wrap_i32]; omega] at h
      exact h⟩

set_option maxRecDepth 100000 in
theorem c_awake : SpecD S 14 [] [] (.bool true) [] := by
  have h := c_bin_add_32 2 3
  rw [show IntKind.u64.wrap (IntKind.u32.wrap (IntKind.u64.wrap (IntKind.u64.wrap (IntKind.u32.wrap 2) + IntKind.u64.wrap (IntKind.u32.wrap 3)))) = 5 by decide] at h
  refine specE ok sh14 rfl ?_
  conv => whnf
  refine call_of [] (h) (by rfl) (by rfl) ?_
  conv => whnf
  exact end_of [] (by rfl) (by rfl) (by rfl) (by exact ⟨rfl, rfl⟩)

def exV (a j : Int) : List V := [.int .u64 a, .own .int 0 0 5 .full, .int .i64 j]

set_option maxRecDepth 100000 in
theorem c_ext_law (a c s : Int) (hc : Int.tmod a 4294967296 = c) (T : ∀ j, j < 5 → ∃ n, Un (opsX.getD j 0) a n ∧ Un (opsX.getD j 0) n n) (u1 : Un 172 a s) (u2 : Un 173 a c) (u3 : Un 167 s c) (u4 : Un 167 c c) :
    SpecD S 10 [.int .u64 a] [] (.bool true) [] := by
  have hcc : (c == c) = true := by simp
  refine specE ok sh10 rfl ?_
  conv => whnf
  refine loop_of [] [0] (fun vs H => ∃ j : Nat, j ≤ 5 ∧ vs = exV a j ∧ H = [.row .int opsX])
    (fun vs _ => match vs with | [_, _, .int _ j] => 5 - j.toNat | _ => 0) (by rfl) (by rfl) (by rfl) (by rfl) ⟨0, by omega, rfl, rfl⟩ ?_
  rintro vs H1 ⟨j, hj, rfl, rfl⟩
  conv => whnf
  cases hd : decide ((j : Int) < 5)
  · conv => whnf
    refine call_of [] (u1) (by rfl) (by rfl) ?_
    conv => whnf
    refine call_of [] (u2) (by rfl) (by rfl) ?_
    conv => whnf
    refine call_of [] (u3) (by rfl) (by rfl) ?_
    conv => whnf
    refine call_of [] (u4) (by rfl) (by rfl) ?_
    conv => whnf
    refine ⟨by decide, ?_⟩
    simp only [hc]
    conv => whnf
    simp only [hcc]
    conv => whnf
    try (simp only [hcc]; conv => whnf)
    try (simp only [hcc]; conv => whnf)
    try (simp only [hcc]; conv => whnf)
    refine call_of [] (c_awake) (by rfl) (by rfl) ?_
    conv => whnf
    exact end_of [] (by rfl) (by rfl) (by rfl) (by exact ⟨rfl, rfl⟩)
  · conv => whnf
    have hlt := of_decide_eq_true hd
    have hw : IntKind.i64.wrap ((j : Int) + 1) = ((j + 1 : Nat) : Int) := wrap_i64 (by omega) (by omega)
    obtain ⟨n, t1, t2⟩ := T j (by omega)
    have hop : opsX.getD (0 + Int.toNat (j : Int)) (S.zero .int) = opsX.getD j 0 := by rw [Nat.zero_add, Int.toNat_natCast]; rfl
    have hl : 0 + Int.toNat (j : Int) < opsX.length := by show _ < 5; omega
    generalize opsX.getD j 0 = op at *
    have hnn : (n != n) = false := by simp
    refine ⟨rfl, by omega, by omega, ?_⟩
    conv => whnf
    refine ⟨rfl, hl, (by decide : 0 + 1 ≤ 1), ?_⟩
    rw [hop]
    conv => whnf
    refine call_of [] (t1) (by rfl) (by rfl) ?_
    conv => whnf
    refine ⟨rfl, by omega, by omega, ?_⟩
    conv => whnf
    refine ⟨rfl, hl, (by decide : 0 + 1 ≤ 1), ?_⟩
    rw [hop]
    conv => whnf
    refine call_of [] (t2) (by rfl) (by rfl) ?_
    conv => whnf
    simp only [hnn]
    conv => whnf
    refine ⟨[0], [], relo_of [0] (by rfl) (by rfl), ?_⟩
    refine ⟨⟨j + 1, by omega, congrArg (exV a) hw, rfl⟩, ?_⟩
    show 5 - (IntKind.i64.wrap ((j : Int) + 1)).toNat < 5 - (j : Int).toNat
    rw [hw]; omega

theorem c_extends (a : Int) (ha : 0 ≤ a ∧ a ≤ 18446744073709551615) : SpecD S 10 [.int .u64 a] [] (.bool true) [] := by
  have e1 : Int.tmod a 4294967296 = IntKind.u64.wrap (IntKind.u32.wrap a) := by
    rw [Int.tmod_eq_emod_of_nonneg ha.1, c32_mod]
  have h3 := c_un_167 (IntKind.u64.wrap (IntKind.i32.wrap (IntKind.u32.wrap a)))
  rw [show IntKind.u64.wrap (IntKind.u32.wrap (IntKind.u64.wrap (IntKind.i32.wrap (IntKind.u32.wrap a)))) = IntKind.u64.wrap (IntKind.u32.wrap a) by simp only [IntKind.wrap_u64, IntKind.wrap_u32, IntKind.wrap_i32]; omega] at h3
  have h4 := c_un_167 (IntKind.u64.wrap (IntKind.u32.wrap a))
  rw [show IntKind.u64.wrap (IntKind.u32.wrap (IntKind.u64.wrap (IntKind.u32.wrap a))) = IntKind.u64.wrap (IntKind.u32.wrap a) by simp only [IntKind.wrap_u64, IntKind.wrap_u32]; omega] at h4
  exact c_ext_law a _ _ e1 (twice a) (c_un_172 a) (c_un_173 a) h3 h4

end Sh
end Go.Proofs.YtoegodeglgeomaaDoor
