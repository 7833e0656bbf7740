/- Closed facts on the types and functions of this translation. -/
import Derived.Test.YtindlieilabgfaaGreatDoorX11
import Derived.Test.YtindlieilabgfaaGreatDoorProg
set_option linter.unusedVariables false
set_option linter.unusedSectionVars false
namespace Go.Proofs.YtindlieilabgfaaGreatDoor
open Go X
theorem bod10 : bodT Tryz.prog 10 = true := by kernel_rfl
theorem bod100 : bodT Tryz.prog 100 = true := by kernel_rfl
theorem bod101 : bodT Tryz.prog 101 = true := by kernel_rfl
theorem bod102 : bodT Tryz.prog 102 = true := by kernel_rfl
theorem bod103 : bodT Tryz.prog 103 = true := by kernel_rfl
theorem bod104 : bodT Tryz.prog 104 = true := by kernel_rfl
theorem bod105 : bodT Tryz.prog 105 = true := by kernel_rfl
theorem bod106 : bodT Tryz.prog 106 = true := by kernel_rfl
theorem bod107 : bodT Tryz.prog 107 = true := by kernel_rfl
theorem bod108 : bodT Tryz.prog 108 = true := by kernel_rfl
theorem bod109 : bodT Tryz.prog 109 = true := by kernel_rfl
theorem bod11 : bodT Tryz.prog 11 = true := by kernel_rfl
theorem bod110 : bodT Tryz.prog 110 = true := by kernel_rfl
theorem bod111 : bodT Tryz.prog 111 = true := by kernel_rfl
theorem bod112 : bodT Tryz.prog 112 = true := by kernel_rfl
theorem bod113 : bodT Tryz.prog 113 = true := by kernel_rfl
theorem bod114 : bodT Tryz.prog 114 = true := by kernel_rfl
theorem bod115 : bodT Tryz.prog 115 = true := by kernel_rfl
theorem bod116 : bodT Tryz.prog 116 = true := by kernel_rfl
theorem bod117 : bodT Tryz.prog 117 = true := by kernel_rfl
theorem bod118 : bodT Tryz.prog 118 = true := by kernel_rfl
theorem bod119 : bodT Tryz.prog 119 = true := by kernel_rfl
theorem bod12 : bodT Tryz.prog 12 = true := by kernel_rfl
theorem bod120 : bodT Tryz.prog 120 = true := by kernel_rfl
theorem bod121 : bodT Tryz.prog 121 = true := by kernel_rfl
theorem bod122 : bodT Tryz.prog 122 = true := by kernel_rfl
theorem bod123 : bodT Tryz.prog 123 = true := by kernel_rfl
theorem bod124 : bodT Tryz.prog 124 = true := by kernel_rfl
theorem bod125 : bodT Tryz.prog 125 = true := by kernel_rfl
theorem bod126 : bodT Tryz.prog 126 = true := by kernel_rfl
theorem bod127 : bodT Tryz.prog 127 = true := by kernel_rfl
theorem bod128 : bodT Tryz.prog 128 = true := by kernel_rfl
theorem bod129 : bodT Tryz.prog 129 = true := by kernel_rfl
theorem bod13 : bodT Tryz.prog 13 = true := by kernel_rfl
theorem bod130 : bodT Tryz.prog 130 = true := by kernel_rfl
theorem bod131 : bodT Tryz.prog 131 = true := by kernel_rfl
theorem bod132 : bodT Tryz.prog 132 = true := by kernel_rfl
theorem bod133 : bodT Tryz.prog 133 = true := by kernel_rfl
theorem bod134 : bodT Tryz.prog 134 = true := by kernel_rfl
theorem bod135 : bodT Tryz.prog 135 = true := by kernel_rfl
theorem bod136 : bodT Tryz.prog 136 = true := by kernel_rfl
theorem bod137 : bodT Tryz.prog 137 = true := by kernel_rfl
theorem bod138 : bodT Tryz.prog 138 = true := by kernel_rfl
theorem bod139 : bodT Tryz.prog 139 = true := by kernel_rfl
theorem bod14 : bodT Tryz.prog 14 = true := by kernel_rfl
theorem bod140 : bodT Tryz.prog 140 = true := by kernel_rfl
theorem bod141 : bodT Tryz.prog 141 = true := by kernel_rfl
theorem bod142 : bodT Tryz.prog 142 = true := by kernel_rfl
theorem bod143 : bodT Tryz.prog 143 = true := by kernel_rfl
theorem bod144 : bodT Tryz.prog 144 = true := by kernel_rfl
theorem bod145 : bodT Tryz.prog 145 = true := by kernel_rfl
theorem bod146 : bodT Tryz.prog 146 = true := by kernel_rfl
theorem bod147 : bodT Tryz.prog 147 = true := by kernel_rfl
theorem bod148 : bodT Tryz.prog 148 = true := by kernel_rfl
theorem bod149 : bodT Tryz.prog 149 = true := by kernel_rfl
theorem bod15 : bodT Tryz.prog 15 = true := by kernel_rfl
theorem bod150 : bodT Tryz.prog 150 = true := by kernel_rfl
theorem bod151 : bodT Tryz.prog 151 = true := by kernel_rfl
theorem bod152 : bodT Tryz.prog 152 = true := by kernel_rfl
theorem bod153 : bodT Tryz.prog 153 = true := by kernel_rfl
theorem bod154 : bodT Tryz.prog 154 = true := by kernel_rfl
theorem bod155 : bodT Tryz.prog 155 = true := by kernel_rfl
theorem bod156 : bodT Tryz.prog 156 = true := by kernel_rfl
theorem bod157 : bodT Tryz.prog 157 = true := by kernel_rfl
theorem bod158 : bodT Tryz.prog 158 = true := by kernel_rfl
theorem bod159 : bodT Tryz.prog 159 = true := by kernel_rfl
theorem bod16 : bodT Tryz.prog 16 = true := by kernel_rfl
theorem bod17 : bodT Tryz.prog 17 = true := by kernel_rfl
theorem bod18 : bodT Tryz.prog 18 = true := by kernel_rfl
theorem bod19 : bodT Tryz.prog 19 = true := by kernel_rfl
theorem bod20 : bodT Tryz.prog 20 = true := by kernel_rfl
theorem bod21 : bodT Tryz.prog 21 = true := by kernel_rfl
theorem bod22 : bodT Tryz.prog 22 = true := by kernel_rfl
theorem bod23 : bodT Tryz.prog 23 = true := by kernel_rfl
theorem bod24 : bodT Tryz.prog 24 = true := by kernel_rfl
theorem bod25 : bodT Tryz.prog 25 = true := by kernel_rfl
theorem bod26 : bodT Tryz.prog 26 = true := by kernel_rfl
theorem bod27 : bodT Tryz.prog 27 = true := by kernel_rfl
theorem bod28 : bodT Tryz.prog 28 = true := by kernel_rfl
theorem bod29 : bodT Tryz.prog 29 = true := by kernel_rfl
theorem bod3 : bodT Tryz.prog 3 = true := by kernel_rfl
theorem bod30 : bodT Tryz.prog 30 = true := by kernel_rfl
theorem bod31 : bodT Tryz.prog 31 = true := by kernel_rfl
theorem bod32 : bodT Tryz.prog 32 = true := by kernel_rfl
theorem bod33 : bodT Tryz.prog 33 = true := by kernel_rfl
theorem bod34 : bodT Tryz.prog 34 = true := by kernel_rfl
theorem bod35 : bodT Tryz.prog 35 = true := by kernel_rfl
theorem bod36 : bodT Tryz.prog 36 = true := by kernel_rfl
theorem bod37 : bodT Tryz.prog 37 = true := by kernel_rfl
theorem bod38 : bodT Tryz.prog 38 = true := by kernel_rfl
theorem bod39 : bodT Tryz.prog 39 = true := by kernel_rfl
theorem bod4 : bodT Tryz.prog 4 = true := by kernel_rfl
theorem bod40 : bodT Tryz.prog 40 = true := by kernel_rfl
theorem bod41 : bodT Tryz.prog 41 = true := by kernel_rfl
theorem bod42 : bodT Tryz.prog 42 = true := by kernel_rfl
theorem bod43 : bodT Tryz.prog 43 = true := by kernel_rfl
theorem bod44 : bodT Tryz.prog 44 = true := by kernel_rfl
theorem bod45 : bodT Tryz.prog 45 = true := by kernel_rfl
theorem bod46 : bodT Tryz.prog 46 = true := by kernel_rfl
theorem bod47 : bodT Tryz.prog 47 = true := by kernel_rfl
theorem bod48 : bodT Tryz.prog 48 = true := by kernel_rfl
theorem bod49 : bodT Tryz.prog 49 = true := by kernel_rfl
theorem bod5 : bodT Tryz.prog 5 = true := by kernel_rfl
theorem bod50 : bodT Tryz.prog 50 = true := by kernel_rfl
theorem bod51 : bodT Tryz.prog 51 = true := by kernel_rfl
theorem bod52 : bodT Tryz.prog 52 = true := by kernel_rfl
theorem bod53 : bodT Tryz.prog 53 = true := by kernel_rfl
theorem bod54 : bodT Tryz.prog 54 = true := by kernel_rfl
theorem bod55 : bodT Tryz.prog 55 = true := by kernel_rfl
theorem bod56 : bodT Tryz.prog 56 = true := by kernel_rfl
theorem bod57 : bodT Tryz.prog 57 = true := by kernel_rfl
theorem bod58 : bodT Tryz.prog 58 = true := by kernel_rfl
theorem bod59 : bodT Tryz.prog 59 = true := by kernel_rfl
theorem bod6 : bodT Tryz.prog 6 = true := by kernel_rfl
theorem bod60 : bodT Tryz.prog 60 = true := by kernel_rfl
theorem bod61 : bodT Tryz.prog 61 = true := by kernel_rfl
theorem bod62 : bodT Tryz.prog 62 = true := by kernel_rfl
theorem bod63 : bodT Tryz.prog 63 = true := by kernel_rfl
theorem bod64 : bodT Tryz.prog 64 = true := by kernel_rfl
theorem bod65 : bodT Tryz.prog 65 = true := by kernel_rfl
theorem bod66 : bodT Tryz.prog 66 = true := by kernel_rfl
theorem bod67 : bodT Tryz.prog 67 = true := by kernel_rfl
theorem bod68 : bodT Tryz.prog 68 = true := by kernel_rfl
theorem bod69 : bodT Tryz.prog 69 = true := by kernel_rfl
theorem bod7 : bodT Tryz.prog 7 = true := by kernel_rfl
theorem bod70 : bodT Tryz.prog 70 = true := by kernel_rfl
theorem bod71 : bodT Tryz.prog 71 = true := by kernel_rfl
theorem bod72 : bodT Tryz.prog 72 = true := by kernel_rfl
theorem bod73 : bodT Tryz.prog 73 = true := by kernel_rfl
theorem bod74 : bodT Tryz.prog 74 = true := by kernel_rfl
theorem bod75 : bodT Tryz.prog 75 = true := by kernel_rfl
theorem bod76 : bodT Tryz.prog 76 = true := by kernel_rfl
theorem bod77 : bodT Tryz.prog 77 = true := by kernel_rfl
theorem bod78 : bodT Tryz.prog 78 = true := by kernel_rfl
theorem bod79 : bodT Tryz.prog 79 = true := by kernel_rfl
theorem bod8 : bodT Tryz.prog 8 = true := by kernel_rfl
theorem bod80 : bodT Tryz.prog 80 = true := by kernel_rfl
theorem bod81 : bodT Tryz.prog 81 = true := by kernel_rfl
theorem bod82 : bodT Tryz.prog 82 = true := by kernel_rfl
theorem bod83 : bodT Tryz.prog 83 = true := by kernel_rfl
theorem bod84 : bodT Tryz.prog 84 = true := by kernel_rfl
theorem bod85 : bodT Tryz.prog 85 = true := by kernel_rfl
theorem bod86 : bodT Tryz.prog 86 = true := by kernel_rfl
theorem bod87 : bodT Tryz.prog 87 = true := by kernel_rfl
theorem bod88 : bodT Tryz.prog 88 = true := by kernel_rfl
theorem bod89 : bodT Tryz.prog 89 = true := by kernel_rfl
theorem bod9 : bodT Tryz.prog 9 = true := by kernel_rfl
theorem bod90 : bodT Tryz.prog 90 = true := by kernel_rfl
theorem bod91 : bodT Tryz.prog 91 = true := by kernel_rfl
theorem bod92 : bodT Tryz.prog 92 = true := by kernel_rfl
theorem bod93 : bodT Tryz.prog 93 = true := by kernel_rfl
theorem bod94 : bodT Tryz.prog 94 = true := by kernel_rfl
theorem bod95 : bodT Tryz.prog 95 = true := by kernel_rfl
theorem bod96 : bodT Tryz.prog 96 = true := by kernel_rfl
theorem bod97 : bodT Tryz.prog 97 = true := by kernel_rfl
theorem bod98 : bodT Tryz.prog 98 = true := by kernel_rfl
theorem bod99 : bodT Tryz.prog 99 = true := by kernel_rfl
theorem bs115 : bsT Tryz.prog 115 = some (117, 2, #[.string ⟨#[]⟩, .string ⟨#[]⟩]) := by kernel_rfl
theorem bs119 : bsT Tryz.prog 119 = some (3, 1, #[.int .i64 0]) := by kernel_rfl
theorem bs120 : bsT Tryz.prog 120 = some (25, 1, #[.slice none 0 0]) := by kernel_rfl
theorem bs141 : bsT Tryz.prog 141 = some (167, 3, #[.int .i64 0, .string ⟨#[]⟩, .int .i64 0]) := by kernel_rfl
theorem bs145 : bsT Tryz.prog 145 = some (176, 3, #[.int .i64 0, .string ⟨#[]⟩, .int .i64 0]) := by kernel_rfl
theorem bs177 : bsT Tryz.prog 177 = some (145, 1, #[.slice none 0 0]) := by kernel_rfl
theorem bs204 : bsT Tryz.prog 204 = some (206, 1, #[.nilIface]) := by kernel_rfl
theorem bs22 : bsT Tryz.prog 22 = some (24, 4, #[.int .i64 0, .string ⟨#[]⟩, .int .i64 0, .slice none 0 0]) := by kernel_rfl
theorem bs25 : bsT Tryz.prog 25 = some (72, 3, #[.string ⟨#[]⟩, .string ⟨#[]⟩, .int .i64 0]) := by kernel_rfl
theorem bs26 : bsT Tryz.prog 26 = some (68, 5, #[.string ⟨#[]⟩, .int .i64 0, .string ⟨#[]⟩, .int .i64 0, .slice none 0 0]) := by kernel_rfl
theorem bs29 : bsT Tryz.prog 29 = some (5, 1, #[.int .u8 0]) := by kernel_rfl
theorem bs33 : bsT Tryz.prog 33 = some (35, 4, #[.int .i64 0, .string ⟨#[]⟩, .int .i64 0, .slice none 0 0]) := by kernel_rfl
theorem bs43 : bsT Tryz.prog 43 = some (28, 7, #[.slice none 0 0, .slice none 0 0, .slice none 0 0, .int .i64 0, .string ⟨#[]⟩, .int .i64 0, .slice none 0 0]) := by kernel_rfl
theorem bs47 : bsT Tryz.prog 47 = some (97, 3, #[.string ⟨#[]⟩, .string ⟨#[]⟩, .int .i64 0]) := by kernel_rfl
theorem bs48 : bsT Tryz.prog 48 = some (95, 5, #[.string ⟨#[]⟩, .int .i64 0, .string ⟨#[]⟩, .int .i64 0, .slice none 0 0]) := by kernel_rfl
theorem bs58 : bsT Tryz.prog 58 = some (9, 1, #[.string ⟨#[]⟩]) := by kernel_rfl
theorem cnc1 : cncT Tryz.prog 1 = true := by kernel_rfl
theorem cnc10 : cncT Tryz.prog 10 = true := by kernel_rfl
theorem cnc100 : cncT Tryz.prog 100 = true := by kernel_rfl
theorem cnc101 : cncT Tryz.prog 101 = true := by kernel_rfl
theorem cnc102 : cncT Tryz.prog 102 = true := by kernel_rfl
theorem cnc103 : cncT Tryz.prog 103 = true := by kernel_rfl
theorem cnc104 : cncT Tryz.prog 104 = true := by kernel_rfl
theorem cnc105 : cncT Tryz.prog 105 = true := by kernel_rfl
theorem cnc106 : cncT Tryz.prog 106 = true := by kernel_rfl
theorem cnc107 : cncT Tryz.prog 107 = true := by kernel_rfl
theorem cnc108 : cncT Tryz.prog 108 = true := by kernel_rfl
theorem cnc109 : cncT Tryz.prog 109 = true := by kernel_rfl
theorem cnc11 : cncT Tryz.prog 11 = true := by kernel_rfl
theorem cnc110 : cncT Tryz.prog 110 = true := by kernel_rfl
theorem cnc112 : cncT Tryz.prog 112 = true := by kernel_rfl
theorem cnc113 : cncT Tryz.prog 113 = true := by kernel_rfl
theorem cnc114 : cncT Tryz.prog 114 = true := by kernel_rfl
theorem cnc115 : cncT Tryz.prog 115 = true := by kernel_rfl
theorem cnc117 : cncT Tryz.prog 117 = true := by kernel_rfl
theorem cnc118 : cncT Tryz.prog 118 = true := by kernel_rfl
theorem cnc119 : cncT Tryz.prog 119 = true := by kernel_rfl
theorem cnc12 : cncT Tryz.prog 12 = true := by kernel_rfl
theorem cnc120 : cncT Tryz.prog 120 = true := by kernel_rfl
theorem cnc121 : cncT Tryz.prog 121 = true := by kernel_rfl
theorem cnc122 : cncT Tryz.prog 122 = true := by kernel_rfl
theorem cnc123 : cncT Tryz.prog 123 = true := by kernel_rfl
theorem cnc124 : cncT Tryz.prog 124 = true := by kernel_rfl
theorem cnc125 : cncT Tryz.prog 125 = true := by kernel_rfl
theorem cnc126 : cncT Tryz.prog 126 = true := by kernel_rfl
theorem cnc127 : cncT Tryz.prog 127 = true := by kernel_rfl
theorem cnc128 : cncT Tryz.prog 128 = true := by kernel_rfl
theorem cnc129 : cncT Tryz.prog 129 = true := by kernel_rfl
theorem cnc130 : cncT Tryz.prog 130 = true := by kernel_rfl
theorem cnc131 : cncT Tryz.prog 131 = true := by kernel_rfl
theorem cnc132 : cncT Tryz.prog 132 = true := by kernel_rfl
theorem cnc133 : cncT Tryz.prog 133 = true := by kernel_rfl
theorem cnc134 : cncT Tryz.prog 134 = true := by kernel_rfl
theorem cnc135 : cncT Tryz.prog 135 = true := by kernel_rfl
theorem cnc136 : cncT Tryz.prog 136 = true := by kernel_rfl
theorem cnc137 : cncT Tryz.prog 137 = true := by kernel_rfl
theorem cnc138 : cncT Tryz.prog 138 = true := by kernel_rfl
theorem cnc139 : cncT Tryz.prog 139 = true := by kernel_rfl
theorem cnc14 : cncT Tryz.prog 14 = true := by kernel_rfl
theorem cnc140 : cncT Tryz.prog 140 = true := by kernel_rfl
theorem cnc141 : cncT Tryz.prog 141 = true := by kernel_rfl
theorem cnc142 : cncT Tryz.prog 142 = true := by kernel_rfl
theorem cnc143 : cncT Tryz.prog 143 = true := by kernel_rfl
theorem cnc144 : cncT Tryz.prog 144 = true := by kernel_rfl
theorem cnc145 : cncT Tryz.prog 145 = true := by kernel_rfl
theorem cnc146 : cncT Tryz.prog 146 = true := by kernel_rfl
theorem cnc147 : cncT Tryz.prog 147 = true := by kernel_rfl
theorem cnc148 : cncT Tryz.prog 148 = true := by kernel_rfl
theorem cnc15 : cncT Tryz.prog 15 = true := by kernel_rfl
theorem cnc150 : cncT Tryz.prog 150 = true := by kernel_rfl
theorem cnc151 : cncT Tryz.prog 151 = true := by kernel_rfl
theorem cnc152 : cncT Tryz.prog 152 = true := by kernel_rfl
theorem cnc153 : cncT Tryz.prog 153 = true := by kernel_rfl
theorem cnc155 : cncT Tryz.prog 155 = true := by kernel_rfl
theorem cnc156 : cncT Tryz.prog 156 = true := by kernel_rfl
theorem cnc157 : cncT Tryz.prog 157 = true := by kernel_rfl
theorem cnc158 : cncT Tryz.prog 158 = true := by kernel_rfl
theorem cnc159 : cncT Tryz.prog 159 = true := by kernel_rfl
theorem cnc16 : cncT Tryz.prog 16 = true := by kernel_rfl
theorem cnc160 : cncT Tryz.prog 160 = true := by kernel_rfl
theorem cnc161 : cncT Tryz.prog 161 = true := by kernel_rfl
theorem cnc163 : cncT Tryz.prog 163 = true := by kernel_rfl
theorem cnc165 : cncT Tryz.prog 165 = true := by kernel_rfl
theorem cnc167 : cncT Tryz.prog 167 = true := by kernel_rfl
theorem cnc168 : cncT Tryz.prog 168 = true := by kernel_rfl
theorem cnc17 : cncT Tryz.prog 17 = true := by kernel_rfl
theorem cnc170 : cncT Tryz.prog 170 = true := by kernel_rfl
theorem cnc171 : cncT Tryz.prog 171 = true := by kernel_rfl
theorem cnc172 : cncT Tryz.prog 172 = true := by kernel_rfl
theorem cnc173 : cncT Tryz.prog 173 = true := by kernel_rfl
theorem cnc174 : cncT Tryz.prog 174 = true := by kernel_rfl
theorem cnc175 : cncT Tryz.prog 175 = true := by kernel_rfl
theorem cnc176 : cncT Tryz.prog 176 = true := by kernel_rfl
theorem cnc177 : cncT Tryz.prog 177 = true := by kernel_rfl
theorem cnc178 : cncT Tryz.prog 178 = true := by kernel_rfl
theorem cnc179 : cncT Tryz.prog 179 = true := by kernel_rfl
theorem cnc180 : cncT Tryz.prog 180 = true := by kernel_rfl
theorem cnc181 : cncT Tryz.prog 181 = true := by kernel_rfl
theorem cnc182 : cncT Tryz.prog 182 = true := by kernel_rfl
theorem cnc183 : cncT Tryz.prog 183 = true := by kernel_rfl
theorem cnc184 : cncT Tryz.prog 184 = true := by kernel_rfl
theorem cnc185 : cncT Tryz.prog 185 = true := by kernel_rfl
theorem cnc186 : cncT Tryz.prog 186 = true := by kernel_rfl
theorem cnc189 : cncT Tryz.prog 189 = true := by kernel_rfl
theorem cnc19 : cncT Tryz.prog 19 = true := by kernel_rfl
theorem cnc190 : cncT Tryz.prog 190 = true := by kernel_rfl
theorem cnc191 : cncT Tryz.prog 191 = true := by kernel_rfl
theorem cnc194 : cncT Tryz.prog 194 = true := by kernel_rfl
theorem cnc195 : cncT Tryz.prog 195 = true := by kernel_rfl
theorem cnc197 : cncT Tryz.prog 197 = true := by kernel_rfl
theorem cnc198 : cncT Tryz.prog 198 = true := by kernel_rfl
theorem cnc2 : cncT Tryz.prog 2 = true := by kernel_rfl
theorem cnc202 : cncT Tryz.prog 202 = true := by kernel_rfl
theorem cnc203 : cncT Tryz.prog 203 = true := by kernel_rfl
theorem cnc204 : cncT Tryz.prog 204 = true := by kernel_rfl
theorem cnc207 : cncT Tryz.prog 207 = true := by kernel_rfl
theorem cnc209 : cncT Tryz.prog 209 = true := by kernel_rfl
theorem cnc21 : cncT Tryz.prog 21 = true := by kernel_rfl
theorem cnc210 : cncT Tryz.prog 210 = true := by kernel_rfl
theorem cnc212 : cncT Tryz.prog 212 = true := by kernel_rfl
theorem cnc216 : cncT Tryz.prog 216 = true := by kernel_rfl
theorem cnc217 : cncT Tryz.prog 217 = true := by kernel_rfl
theorem cnc219 : cncT Tryz.prog 219 = true := by kernel_rfl
theorem cnc22 : cncT Tryz.prog 22 = true := by kernel_rfl
theorem cnc222 : cncT Tryz.prog 222 = true := by kernel_rfl
theorem cnc223 : cncT Tryz.prog 223 = true := by kernel_rfl
theorem cnc224 : cncT Tryz.prog 224 = true := by kernel_rfl
theorem cnc225 : cncT Tryz.prog 225 = true := by kernel_rfl
theorem cnc226 : cncT Tryz.prog 226 = true := by kernel_rfl
theorem cnc227 : cncT Tryz.prog 227 = true := by kernel_rfl
theorem cnc229 : cncT Tryz.prog 229 = true := by kernel_rfl
theorem cnc24 : cncT Tryz.prog 24 = true := by kernel_rfl
theorem cnc25 : cncT Tryz.prog 25 = true := by kernel_rfl
theorem cnc26 : cncT Tryz.prog 26 = true := by kernel_rfl
theorem cnc28 : cncT Tryz.prog 28 = true := by kernel_rfl
theorem cnc29 : cncT Tryz.prog 29 = true := by kernel_rfl
theorem cnc3 : cncT Tryz.prog 3 = true := by kernel_rfl
theorem cnc30 : cncT Tryz.prog 30 = true := by kernel_rfl
theorem cnc32 : cncT Tryz.prog 32 = true := by kernel_rfl
theorem cnc33 : cncT Tryz.prog 33 = true := by kernel_rfl
theorem cnc35 : cncT Tryz.prog 35 = true := by kernel_rfl
theorem cnc37 : cncT Tryz.prog 37 = true := by kernel_rfl
theorem cnc38 : cncT Tryz.prog 38 = true := by kernel_rfl
theorem cnc39 : cncT Tryz.prog 39 = true := by kernel_rfl
theorem cnc4 : cncT Tryz.prog 4 = true := by kernel_rfl
theorem cnc40 : cncT Tryz.prog 40 = true := by kernel_rfl
theorem cnc41 : cncT Tryz.prog 41 = true := by kernel_rfl
theorem cnc42 : cncT Tryz.prog 42 = true := by kernel_rfl
theorem cnc43 : cncT Tryz.prog 43 = true := by kernel_rfl
theorem cnc44 : cncT Tryz.prog 44 = true := by kernel_rfl
theorem cnc46 : cncT Tryz.prog 46 = true := by kernel_rfl
theorem cnc47 : cncT Tryz.prog 47 = true := by kernel_rfl
theorem cnc48 : cncT Tryz.prog 48 = true := by kernel_rfl
theorem cnc5 : cncT Tryz.prog 5 = true := by kernel_rfl
theorem cnc50 : cncT Tryz.prog 50 = true := by kernel_rfl
theorem cnc52 : cncT Tryz.prog 52 = true := by kernel_rfl
theorem cnc53 : cncT Tryz.prog 53 = true := by kernel_rfl
theorem cnc54 : cncT Tryz.prog 54 = true := by kernel_rfl
theorem cnc55 : cncT Tryz.prog 55 = true := by kernel_rfl
theorem cnc56 : cncT Tryz.prog 56 = true := by kernel_rfl
theorem cnc57 : cncT Tryz.prog 57 = true := by kernel_rfl
theorem cnc58 : cncT Tryz.prog 58 = true := by kernel_rfl
theorem cnc59 : cncT Tryz.prog 59 = true := by kernel_rfl
theorem cnc6 : cncT Tryz.prog 6 = true := by kernel_rfl
theorem cnc60 : cncT Tryz.prog 60 = true := by kernel_rfl
theorem cnc61 : cncT Tryz.prog 61 = true := by kernel_rfl
theorem cnc62 : cncT Tryz.prog 62 = true := by kernel_rfl
theorem cnc63 : cncT Tryz.prog 63 = true := by kernel_rfl
theorem cnc64 : cncT Tryz.prog 64 = true := by kernel_rfl
theorem cnc65 : cncT Tryz.prog 65 = true := by kernel_rfl
theorem cnc66 : cncT Tryz.prog 66 = true := by kernel_rfl
theorem cnc68 : cncT Tryz.prog 68 = true := by kernel_rfl
theorem cnc69 : cncT Tryz.prog 69 = true := by kernel_rfl
theorem cnc70 : cncT Tryz.prog 70 = true := by kernel_rfl
theorem cnc72 : cncT Tryz.prog 72 = true := by kernel_rfl
theorem cnc73 : cncT Tryz.prog 73 = true := by kernel_rfl
theorem cnc74 : cncT Tryz.prog 74 = true := by kernel_rfl
theorem cnc75 : cncT Tryz.prog 75 = true := by kernel_rfl
theorem cnc76 : cncT Tryz.prog 76 = true := by kernel_rfl
theorem cnc78 : cncT Tryz.prog 78 = true := by kernel_rfl
theorem cnc79 : cncT Tryz.prog 79 = true := by kernel_rfl
theorem cnc8 : cncT Tryz.prog 8 = true := by kernel_rfl
theorem cnc80 : cncT Tryz.prog 80 = true := by kernel_rfl
theorem cnc81 : cncT Tryz.prog 81 = true := by kernel_rfl
theorem cnc82 : cncT Tryz.prog 82 = true := by kernel_rfl
theorem cnc83 : cncT Tryz.prog 83 = true := by kernel_rfl
theorem cnc85 : cncT Tryz.prog 85 = true := by kernel_rfl
theorem cnc86 : cncT Tryz.prog 86 = true := by kernel_rfl
theorem cnc87 : cncT Tryz.prog 87 = true := by kernel_rfl
theorem cnc88 : cncT Tryz.prog 88 = true := by kernel_rfl
theorem cnc89 : cncT Tryz.prog 89 = true := by kernel_rfl
theorem cnc9 : cncT Tryz.prog 9 = true := by kernel_rfl
theorem cnc90 : cncT Tryz.prog 90 = true := by kernel_rfl
theorem cnc91 : cncT Tryz.prog 91 = true := by kernel_rfl
theorem cnc92 : cncT Tryz.prog 92 = true := by kernel_rfl
theorem cnc93 : cncT Tryz.prog 93 = true := by kernel_rfl
theorem cnc95 : cncT Tryz.prog 95 = true := by kernel_rfl
theorem cnc96 : cncT Tryz.prog 96 = true := by kernel_rfl
theorem cnc97 : cncT Tryz.prog 97 = true := by kernel_rfl
theorem cnc98 : cncT Tryz.prog 98 = true := by kernel_rfl
theorem cnc99 : cncT Tryz.prog 99 = true := by kernel_rfl
theorem fl117_0 : fldT Tryz.prog 117 0 = some 0 := by kernel_rfl
theorem fl117_1 : fldT Tryz.prog 117 1 = some 1 := by kernel_rfl
theorem fl14_0 : fldT Tryz.prog 14 0 = some 0 := by kernel_rfl
theorem fl14_1 : fldT Tryz.prog 14 1 = some 1 := by kernel_rfl
theorem fl167_0 : fldT Tryz.prog 167 0 = some 0 := by kernel_rfl
theorem fl167_1 : fldT Tryz.prog 167 1 = some 1 := by kernel_rfl
theorem fl167_2 : fldT Tryz.prog 167 2 = some 2 := by kernel_rfl
theorem fl170_0 : fldT Tryz.prog 170 0 = some 0 := by kernel_rfl
theorem fl176_0 : fldT Tryz.prog 176 0 = some 0 := by kernel_rfl
theorem fl176_1 : fldT Tryz.prog 176 1 = some 1 := by kernel_rfl
theorem fl176_2 : fldT Tryz.prog 176 2 = some 2 := by kernel_rfl
theorem fl19_0 : fldT Tryz.prog 19 0 = some 0 := by kernel_rfl
theorem fl197_0 : fldT Tryz.prog 197 0 = some 0 := by kernel_rfl
theorem fl197_1 : fldT Tryz.prog 197 1 = some 1 := by kernel_rfl
theorem fl219_0 : fldT Tryz.prog 219 0 = some 0 := by kernel_rfl
theorem fl219_1 : fldT Tryz.prog 219 1 = some 1 := by kernel_rfl
theorem fl219_2 : fldT Tryz.prog 219 2 = some 2 := by kernel_rfl
theorem fl219_3 : fldT Tryz.prog 219 3 = some 3 := by kernel_rfl
theorem fl229_0 : fldT Tryz.prog 229 0 = some 0 := by kernel_rfl
theorem fl229_1 : fldT Tryz.prog 229 1 = some 1 := by kernel_rfl
theorem fl229_10 : fldT Tryz.prog 229 10 = some 10 := by kernel_rfl
theorem fl229_2 : fldT Tryz.prog 229 2 = some 2 := by kernel_rfl
theorem fl229_3 : fldT Tryz.prog 229 3 = some 3 := by kernel_rfl
theorem fl229_4 : fldT Tryz.prog 229 4 = some 4 := by kernel_rfl
theorem fl229_5 : fldT Tryz.prog 229 5 = some 5 := by kernel_rfl
theorem fl229_6 : fldT Tryz.prog 229 6 = some 6 := by kernel_rfl
theorem fl229_7 : fldT Tryz.prog 229 7 = some 7 := by kernel_rfl
theorem fl229_8 : fldT Tryz.prog 229 8 = some 8 := by kernel_rfl
theorem fl229_9 : fldT Tryz.prog 229 9 = some 9 := by kernel_rfl
theorem fl24_0 : fldT Tryz.prog 24 0 = some 0 := by kernel_rfl
theorem fl24_1 : fldT Tryz.prog 24 1 = some 1 := by kernel_rfl
theorem fl24_2 : fldT Tryz.prog 24 2 = some 2 := by kernel_rfl
theorem fl24_3 : fldT Tryz.prog 24 3 = some 3 := by kernel_rfl
theorem fl28_0 : fldT Tryz.prog 28 0 = some 0 := by kernel_rfl
theorem fl28_1 : fldT Tryz.prog 28 1 = some 1 := by kernel_rfl
theorem fl28_2 : fldT Tryz.prog 28 2 = some 2 := by kernel_rfl
theorem fl28_3 : fldT Tryz.prog 28 3 = some 3 := by kernel_rfl
theorem fl35_0 : fldT Tryz.prog 35 0 = some 0 := by kernel_rfl
theorem fl35_1 : fldT Tryz.prog 35 1 = some 1 := by kernel_rfl
theorem fl35_2 : fldT Tryz.prog 35 2 = some 2 := by kernel_rfl
theorem fl35_3 : fldT Tryz.prog 35 3 = some 3 := by kernel_rfl
theorem fl50_0 : fldT Tryz.prog 50 0 = some 0 := by kernel_rfl
theorem fl50_1 : fldT Tryz.prog 50 1 = some 1 := by kernel_rfl
theorem fl50_2 : fldT Tryz.prog 50 2 = some 2 := by kernel_rfl
theorem fl50_3 : fldT Tryz.prog 50 3 = some 3 := by kernel_rfl
theorem fl68_0 : fldT Tryz.prog 68 0 = some 0 := by kernel_rfl
theorem fl68_1 : fldT Tryz.prog 68 1 = some 1 := by kernel_rfl
theorem fl72_0 : fldT Tryz.prog 72 0 = some 0 := by kernel_rfl
theorem fl72_1 : fldT Tryz.prog 72 1 = some 1 := by kernel_rfl
theorem fl72_2 : fldT Tryz.prog 72 2 = some 2 := by kernel_rfl
theorem fl78_0 : fldT Tryz.prog 78 0 = some 0 := by kernel_rfl
theorem fl78_1 : fldT Tryz.prog 78 1 = some 1 := by kernel_rfl
theorem fl8_0 : fldT Tryz.prog 8 0 = some 0 := by kernel_rfl
theorem fl8_1 : fldT Tryz.prog 8 1 = some 1 := by kernel_rfl
theorem fl8_2 : fldT Tryz.prog 8 2 = some 2 := by kernel_rfl
theorem fl8_3 : fldT Tryz.prog 8 3 = some 3 := by kernel_rfl
theorem fl85_0 : fldT Tryz.prog 85 0 = some 0 := by kernel_rfl
theorem fl85_1 : fldT Tryz.prog 85 1 = some 1 := by kernel_rfl
theorem fl95_0 : fldT Tryz.prog 95 0 = some 0 := by kernel_rfl
theorem fl95_1 : fldT Tryz.prog 95 1 = some 1 := by kernel_rfl
theorem fl97_0 : fldT Tryz.prog 97 0 = some 0 := by kernel_rfl
theorem fl97_1 : fldT Tryz.prog 97 1 = some 1 := by kernel_rfl
theorem fl97_2 : fldT Tryz.prog 97 2 = some 2 := by kernel_rfl
theorem lay117 : layT Tryz.prog 117 = some #[(0, 1), (1, 1)] := by kernel_rfl
theorem lay14 : layT Tryz.prog 14 = some #[(0, 1), (1, 1)] := by kernel_rfl
theorem lay167 : layT Tryz.prog 167 = some #[(0, 1), (1, 1), (2, 1)] := by kernel_rfl
theorem lay170 : layT Tryz.prog 170 = some #[(0, 4)] := by kernel_rfl
theorem lay176 : layT Tryz.prog 176 = some #[(0, 1), (1, 1), (2, 1)] := by kernel_rfl
theorem lay19 : layT Tryz.prog 19 = some #[(0, 1)] := by kernel_rfl
theorem lay197 : layT Tryz.prog 197 = some #[(0, 1), (1, 1)] := by kernel_rfl
theorem lay219 : layT Tryz.prog 219 = some #[(0, 1), (1, 1), (2, 1), (3, 1)] := by kernel_rfl
theorem lay222 : layT Tryz.prog 222 = some #[(0, 0)] := by kernel_rfl
theorem lay229 : layT Tryz.prog 229 = some #[(0, 1), (1, 1), (2, 1), (3, 1), (4, 1), (5, 1), (6, 1), (7, 1), (8, 1), (9, 1), (10, 1)] := by kernel_rfl
theorem lay24 : layT Tryz.prog 24 = some #[(0, 1), (1, 1), (2, 1), (3, 1)] := by kernel_rfl
theorem lay28 : layT Tryz.prog 28 = some #[(0, 1), (1, 1), (2, 1), (3, 4)] := by kernel_rfl
theorem lay35 : layT Tryz.prog 35 = some #[(0, 1), (1, 1), (2, 1), (3, 1)] := by kernel_rfl
theorem lay50 : layT Tryz.prog 50 = some #[(0, 1), (1, 1), (2, 1), (3, 4)] := by kernel_rfl
theorem lay68 : layT Tryz.prog 68 = some #[(0, 1), (1, 4)] := by kernel_rfl
theorem lay72 : layT Tryz.prog 72 = some #[(0, 1), (1, 1), (2, 1)] := by kernel_rfl
theorem lay78 : layT Tryz.prog 78 = some #[(0, 1), (1, 1)] := by kernel_rfl
theorem lay8 : layT Tryz.prog 8 = some #[(0, 1), (1, 1), (2, 1), (3, 1)] := by kernel_rfl
theorem lay85 : layT Tryz.prog 85 = some #[(0, 1), (1, 1)] := by kernel_rfl
theorem lay95 : layT Tryz.prog 95 = some #[(0, 1), (1, 4)] := by kernel_rfl
theorem lay97 : layT Tryz.prog 97 = some #[(0, 1), (1, 1), (2, 1)] := by kernel_rfl
theorem mix : Tryz.prog.follows .mixedOrders = true := by kernel_rfl
theorem row115 : rowT Tryz.prog 115 117 2 32 = true := by kernel_rfl
theorem row119 : rowT Tryz.prog 119 3 1 8 = true := by kernel_rfl
theorem row120 : rowT Tryz.prog 120 25 1 24 = true := by kernel_rfl
theorem row141 : rowT Tryz.prog 141 167 3 32 = true := by kernel_rfl
theorem row145 : rowT Tryz.prog 145 176 3 32 = true := by kernel_rfl
theorem row177 : rowT Tryz.prog 177 145 1 24 = true := by kernel_rfl
theorem row204 : rowT Tryz.prog 204 206 1 16 = true := by kernel_rfl
theorem row22 : rowT Tryz.prog 22 24 4 56 = true := by kernel_rfl
theorem row25 : rowT Tryz.prog 25 72 3 40 = true := by kernel_rfl
theorem row26 : rowT Tryz.prog 26 68 5 72 = true := by kernel_rfl
theorem row29 : rowT Tryz.prog 29 5 1 1 = true := by kernel_rfl
theorem row33 : rowT Tryz.prog 33 35 4 56 = true := by kernel_rfl
theorem row43 : rowT Tryz.prog 43 28 7 128 = true := by kernel_rfl
theorem row47 : rowT Tryz.prog 47 97 3 40 = true := by kernel_rfl
theorem row48 : rowT Tryz.prog 48 95 5 72 = true := by kernel_rfl
theorem row58 : rowT Tryz.prog 58 9 1 16 = true := by kernel_rfl
theorem sli115 : sliT Tryz.prog 115 = some 117 := by kernel_rfl
theorem sli119 : sliT Tryz.prog 119 = some 3 := by kernel_rfl
theorem sli120 : sliT Tryz.prog 120 = some 25 := by kernel_rfl
theorem sli141 : sliT Tryz.prog 141 = some 167 := by kernel_rfl
theorem sli145 : sliT Tryz.prog 145 = some 176 := by kernel_rfl
theorem sli177 : sliT Tryz.prog 177 = some 145 := by kernel_rfl
theorem sli204 : sliT Tryz.prog 204 = some 206 := by kernel_rfl
theorem sli22 : sliT Tryz.prog 22 = some 24 := by kernel_rfl
theorem sli25 : sliT Tryz.prog 25 = some 72 := by kernel_rfl
theorem sli26 : sliT Tryz.prog 26 = some 68 := by kernel_rfl
theorem sli29 : sliT Tryz.prog 29 = some 5 := by kernel_rfl
theorem sli33 : sliT Tryz.prog 33 = some 35 := by kernel_rfl
theorem sli43 : sliT Tryz.prog 43 = some 28 := by kernel_rfl
theorem sli47 : sliT Tryz.prog 47 = some 97 := by kernel_rfl
theorem sli48 : sliT Tryz.prog 48 = some 95 := by kernel_rfl
theorem sli58 : sliT Tryz.prog 58 = some 9 := by kernel_rfl
theorem str10 : strT Tryz.prog 10 = true := by kernel_rfl
theorem str11 : strT Tryz.prog 11 = true := by kernel_rfl
theorem str172 : strT Tryz.prog 172 = true := by kernel_rfl
theorem str174 : strT Tryz.prog 174 = true := by kernel_rfl
theorem str175 : strT Tryz.prog 175 = true := by kernel_rfl
theorem str9 : strT Tryz.prog 9 = true := by kernel_rfl
theorem sz10 : szT Tryz.prog 10 1 = true := by kernel_rfl
theorem sz11 : szT Tryz.prog 11 1 = true := by kernel_rfl
theorem sz115 : szT Tryz.prog 115 1 = true := by kernel_rfl
theorem sz117 : szT Tryz.prog 117 2 = true := by kernel_rfl
theorem sz119 : szT Tryz.prog 119 1 = true := by kernel_rfl
theorem sz12 : szT Tryz.prog 12 1 = true := by kernel_rfl
theorem sz120 : szT Tryz.prog 120 1 = true := by kernel_rfl
theorem sz128 : szT Tryz.prog 128 1 = true := by kernel_rfl
theorem sz136 : szT Tryz.prog 136 1 = true := by kernel_rfl
theorem sz14 : szT Tryz.prog 14 2 = true := by kernel_rfl
theorem sz141 : szT Tryz.prog 141 1 = true := by kernel_rfl
theorem sz145 : szT Tryz.prog 145 1 = true := by kernel_rfl
theorem sz148 : szT Tryz.prog 148 1 = true := by kernel_rfl
theorem sz15 : szT Tryz.prog 15 1 = true := by kernel_rfl
theorem sz157 : szT Tryz.prog 157 1 = true := by kernel_rfl
theorem sz16 : szT Tryz.prog 16 1 = true := by kernel_rfl
theorem sz167 : szT Tryz.prog 167 3 = true := by kernel_rfl
theorem sz17 : szT Tryz.prog 17 1 = true := by kernel_rfl
theorem sz170 : szT Tryz.prog 170 4 = true := by kernel_rfl
theorem sz172 : szT Tryz.prog 172 1 = true := by kernel_rfl
theorem sz174 : szT Tryz.prog 174 1 = true := by kernel_rfl
theorem sz175 : szT Tryz.prog 175 1 = true := by kernel_rfl
theorem sz176 : szT Tryz.prog 176 3 = true := by kernel_rfl
theorem sz177 : szT Tryz.prog 177 1 = true := by kernel_rfl
theorem sz181 : szT Tryz.prog 181 1 = true := by kernel_rfl
theorem sz185 : szT Tryz.prog 185 1 = true := by kernel_rfl
theorem sz19 : szT Tryz.prog 19 1 = true := by kernel_rfl
theorem sz195 : szT Tryz.prog 195 1 = true := by kernel_rfl
theorem sz197 : szT Tryz.prog 197 2 = true := by kernel_rfl
theorem sz199 : szT Tryz.prog 199 1 = true := by kernel_rfl
theorem sz2 : szT Tryz.prog 2 1 = true := by kernel_rfl
theorem sz20 : szT Tryz.prog 20 1 = true := by kernel_rfl
theorem sz200 : szT Tryz.prog 200 1 = true := by kernel_rfl
theorem sz204 : szT Tryz.prog 204 1 = true := by kernel_rfl
theorem sz205 : szT Tryz.prog 205 1 = true := by kernel_rfl
theorem sz206 : szT Tryz.prog 206 1 = true := by kernel_rfl
theorem sz207 : szT Tryz.prog 207 1 = true := by kernel_rfl
theorem sz21 : szT Tryz.prog 21 1 = true := by kernel_rfl
theorem sz212 : szT Tryz.prog 212 1 = true := by kernel_rfl
theorem sz219 : szT Tryz.prog 219 4 = true := by kernel_rfl
theorem sz22 : szT Tryz.prog 22 1 = true := by kernel_rfl
theorem sz222 : szT Tryz.prog 222 0 = true := by kernel_rfl
theorem sz223 : szT Tryz.prog 223 1 = true := by kernel_rfl
theorem sz224 : szT Tryz.prog 224 1 = true := by kernel_rfl
theorem sz226 : szT Tryz.prog 226 1 = true := by kernel_rfl
theorem sz227 : szT Tryz.prog 227 1 = true := by kernel_rfl
theorem sz229 : szT Tryz.prog 229 11 = true := by kernel_rfl
theorem sz24 : szT Tryz.prog 24 4 = true := by kernel_rfl
theorem sz25 : szT Tryz.prog 25 1 = true := by kernel_rfl
theorem sz26 : szT Tryz.prog 26 1 = true := by kernel_rfl
theorem sz28 : szT Tryz.prog 28 7 = true := by kernel_rfl
theorem sz29 : szT Tryz.prog 29 1 = true := by kernel_rfl
theorem sz3 : szT Tryz.prog 3 1 = true := by kernel_rfl
theorem sz33 : szT Tryz.prog 33 1 = true := by kernel_rfl
theorem sz35 : szT Tryz.prog 35 4 = true := by kernel_rfl
theorem sz4 : szT Tryz.prog 4 1 = true := by kernel_rfl
theorem sz43 : szT Tryz.prog 43 1 = true := by kernel_rfl
theorem sz44 : szT Tryz.prog 44 1 = true := by kernel_rfl
theorem sz47 : szT Tryz.prog 47 1 = true := by kernel_rfl
theorem sz48 : szT Tryz.prog 48 1 = true := by kernel_rfl
theorem sz5 : szT Tryz.prog 5 1 = true := by kernel_rfl
theorem sz50 : szT Tryz.prog 50 7 = true := by kernel_rfl
theorem sz56 : szT Tryz.prog 56 1 = true := by kernel_rfl
theorem sz58 : szT Tryz.prog 58 1 = true := by kernel_rfl
theorem sz6 : szT Tryz.prog 6 1 = true := by kernel_rfl
theorem sz68 : szT Tryz.prog 68 5 = true := by kernel_rfl
theorem sz72 : szT Tryz.prog 72 3 = true := by kernel_rfl
theorem sz75 : szT Tryz.prog 75 1 = true := by kernel_rfl
theorem sz76 : szT Tryz.prog 76 1 = true := by kernel_rfl
theorem sz78 : szT Tryz.prog 78 2 = true := by kernel_rfl
theorem sz8 : szT Tryz.prog 8 4 = true := by kernel_rfl
theorem sz83 : szT Tryz.prog 83 1 = true := by kernel_rfl
theorem sz85 : szT Tryz.prog 85 2 = true := by kernel_rfl
theorem sz9 : szT Tryz.prog 9 1 = true := by kernel_rfl
theorem sz95 : szT Tryz.prog 95 5 = true := by kernel_rfl
theorem sz97 : szT Tryz.prog 97 3 = true := by kernel_rfl
theorem sz99 : szT Tryz.prog 99 1 = true := by kernel_rfl
theorem t1_1 : ty1 Tryz.prog 1 = true := by kernel_rfl
theorem t1_10 : ty1 Tryz.prog 10 = true := by kernel_rfl
theorem t1_100 : ty1 Tryz.prog 100 = true := by kernel_rfl
theorem t1_101 : ty1 Tryz.prog 101 = true := by kernel_rfl
theorem t1_102 : ty1 Tryz.prog 102 = true := by kernel_rfl
theorem t1_103 : ty1 Tryz.prog 103 = true := by kernel_rfl
theorem t1_104 : ty1 Tryz.prog 104 = true := by kernel_rfl
theorem t1_105 : ty1 Tryz.prog 105 = true := by kernel_rfl
theorem t1_106 : ty1 Tryz.prog 106 = true := by kernel_rfl
theorem t1_107 : ty1 Tryz.prog 107 = true := by kernel_rfl
theorem t1_108 : ty1 Tryz.prog 108 = true := by kernel_rfl
theorem t1_109 : ty1 Tryz.prog 109 = true := by kernel_rfl
theorem t1_11 : ty1 Tryz.prog 11 = true := by kernel_rfl
theorem t1_110 : ty1 Tryz.prog 110 = true := by kernel_rfl
theorem t1_112 : ty1 Tryz.prog 112 = true := by kernel_rfl
theorem t1_113 : ty1 Tryz.prog 113 = true := by kernel_rfl
theorem t1_114 : ty1 Tryz.prog 114 = true := by kernel_rfl
theorem t1_115 : ty1 Tryz.prog 115 = true := by kernel_rfl
theorem t1_118 : ty1 Tryz.prog 118 = true := by kernel_rfl
theorem t1_119 : ty1 Tryz.prog 119 = true := by kernel_rfl
theorem t1_12 : ty1 Tryz.prog 12 = true := by kernel_rfl
theorem t1_120 : ty1 Tryz.prog 120 = true := by kernel_rfl
theorem t1_121 : ty1 Tryz.prog 121 = true := by kernel_rfl
theorem t1_122 : ty1 Tryz.prog 122 = true := by kernel_rfl
theorem t1_123 : ty1 Tryz.prog 123 = true := by kernel_rfl
theorem t1_124 : ty1 Tryz.prog 124 = true := by kernel_rfl
theorem t1_125 : ty1 Tryz.prog 125 = true := by kernel_rfl
theorem t1_126 : ty1 Tryz.prog 126 = true := by kernel_rfl
theorem t1_127 : ty1 Tryz.prog 127 = true := by kernel_rfl
theorem t1_128 : ty1 Tryz.prog 128 = true := by kernel_rfl
theorem t1_129 : ty1 Tryz.prog 129 = true := by kernel_rfl
theorem t1_130 : ty1 Tryz.prog 130 = true := by kernel_rfl
theorem t1_131 : ty1 Tryz.prog 131 = true := by kernel_rfl
theorem t1_132 : ty1 Tryz.prog 132 = true := by kernel_rfl
theorem t1_133 : ty1 Tryz.prog 133 = true := by kernel_rfl
theorem t1_134 : ty1 Tryz.prog 134 = true := by kernel_rfl
theorem t1_135 : ty1 Tryz.prog 135 = true := by kernel_rfl
theorem t1_136 : ty1 Tryz.prog 136 = true := by kernel_rfl
theorem t1_137 : ty1 Tryz.prog 137 = true := by kernel_rfl
theorem t1_138 : ty1 Tryz.prog 138 = true := by kernel_rfl
theorem t1_139 : ty1 Tryz.prog 139 = true := by kernel_rfl
theorem t1_140 : ty1 Tryz.prog 140 = true := by kernel_rfl
theorem t1_141 : ty1 Tryz.prog 141 = true := by kernel_rfl
theorem t1_142 : ty1 Tryz.prog 142 = true := by kernel_rfl
theorem t1_143 : ty1 Tryz.prog 143 = true := by kernel_rfl
theorem t1_144 : ty1 Tryz.prog 144 = true := by kernel_rfl
theorem t1_145 : ty1 Tryz.prog 145 = true := by kernel_rfl
theorem t1_146 : ty1 Tryz.prog 146 = true := by kernel_rfl
theorem t1_147 : ty1 Tryz.prog 147 = true := by kernel_rfl
theorem t1_148 : ty1 Tryz.prog 148 = true := by kernel_rfl
theorem t1_15 : ty1 Tryz.prog 15 = true := by kernel_rfl
theorem t1_150 : ty1 Tryz.prog 150 = true := by kernel_rfl
theorem t1_151 : ty1 Tryz.prog 151 = true := by kernel_rfl
theorem t1_152 : ty1 Tryz.prog 152 = true := by kernel_rfl
theorem t1_153 : ty1 Tryz.prog 153 = true := by kernel_rfl
theorem t1_155 : ty1 Tryz.prog 155 = true := by kernel_rfl
theorem t1_156 : ty1 Tryz.prog 156 = true := by kernel_rfl
theorem t1_157 : ty1 Tryz.prog 157 = true := by kernel_rfl
theorem t1_158 : ty1 Tryz.prog 158 = true := by kernel_rfl
theorem t1_159 : ty1 Tryz.prog 159 = true := by kernel_rfl
theorem t1_16 : ty1 Tryz.prog 16 = true := by kernel_rfl
theorem t1_160 : ty1 Tryz.prog 160 = true := by kernel_rfl
theorem t1_161 : ty1 Tryz.prog 161 = true := by kernel_rfl
theorem t1_163 : ty1 Tryz.prog 163 = true := by kernel_rfl
theorem t1_165 : ty1 Tryz.prog 165 = true := by kernel_rfl
theorem t1_168 : ty1 Tryz.prog 168 = true := by kernel_rfl
theorem t1_17 : ty1 Tryz.prog 17 = true := by kernel_rfl
theorem t1_171 : ty1 Tryz.prog 171 = true := by kernel_rfl
theorem t1_172 : ty1 Tryz.prog 172 = true := by kernel_rfl
theorem t1_173 : ty1 Tryz.prog 173 = true := by kernel_rfl
theorem t1_174 : ty1 Tryz.prog 174 = true := by kernel_rfl
theorem t1_175 : ty1 Tryz.prog 175 = true := by kernel_rfl
theorem t1_177 : ty1 Tryz.prog 177 = true := by kernel_rfl
theorem t1_178 : ty1 Tryz.prog 178 = true := by kernel_rfl
theorem t1_179 : ty1 Tryz.prog 179 = true := by kernel_rfl
theorem t1_180 : ty1 Tryz.prog 180 = true := by kernel_rfl
theorem t1_181 : ty1 Tryz.prog 181 = true := by kernel_rfl
theorem t1_182 : ty1 Tryz.prog 182 = true := by kernel_rfl
theorem t1_183 : ty1 Tryz.prog 183 = true := by kernel_rfl
theorem t1_184 : ty1 Tryz.prog 184 = true := by kernel_rfl
theorem t1_185 : ty1 Tryz.prog 185 = true := by kernel_rfl
theorem t1_186 : ty1 Tryz.prog 186 = true := by kernel_rfl
theorem t1_189 : ty1 Tryz.prog 189 = true := by kernel_rfl
theorem t1_190 : ty1 Tryz.prog 190 = true := by kernel_rfl
theorem t1_191 : ty1 Tryz.prog 191 = true := by kernel_rfl
theorem t1_194 : ty1 Tryz.prog 194 = true := by kernel_rfl
theorem t1_195 : ty1 Tryz.prog 195 = true := by kernel_rfl
theorem t1_198 : ty1 Tryz.prog 198 = true := by kernel_rfl
theorem t1_199 : ty1 Tryz.prog 199 = true := by kernel_rfl
theorem t1_2 : ty1 Tryz.prog 2 = true := by kernel_rfl
theorem t1_20 : ty1 Tryz.prog 20 = true := by kernel_rfl
theorem t1_200 : ty1 Tryz.prog 200 = true := by kernel_rfl
theorem t1_202 : ty1 Tryz.prog 202 = true := by kernel_rfl
theorem t1_203 : ty1 Tryz.prog 203 = true := by kernel_rfl
theorem t1_204 : ty1 Tryz.prog 204 = true := by kernel_rfl
theorem t1_205 : ty1 Tryz.prog 205 = true := by kernel_rfl
theorem t1_206 : ty1 Tryz.prog 206 = true := by kernel_rfl
theorem t1_207 : ty1 Tryz.prog 207 = true := by kernel_rfl
theorem t1_209 : ty1 Tryz.prog 209 = true := by kernel_rfl
theorem t1_21 : ty1 Tryz.prog 21 = true := by kernel_rfl
theorem t1_210 : ty1 Tryz.prog 210 = true := by kernel_rfl
theorem t1_212 : ty1 Tryz.prog 212 = true := by kernel_rfl
theorem t1_216 : ty1 Tryz.prog 216 = true := by kernel_rfl
theorem t1_217 : ty1 Tryz.prog 217 = true := by kernel_rfl
theorem t1_22 : ty1 Tryz.prog 22 = true := by kernel_rfl
theorem t1_223 : ty1 Tryz.prog 223 = true := by kernel_rfl
theorem t1_224 : ty1 Tryz.prog 224 = true := by kernel_rfl
theorem t1_225 : ty1 Tryz.prog 225 = true := by kernel_rfl
theorem t1_226 : ty1 Tryz.prog 226 = true := by kernel_rfl
theorem t1_227 : ty1 Tryz.prog 227 = true := by kernel_rfl
theorem t1_25 : ty1 Tryz.prog 25 = true := by kernel_rfl
theorem t1_26 : ty1 Tryz.prog 26 = true := by kernel_rfl
theorem t1_29 : ty1 Tryz.prog 29 = true := by kernel_rfl
theorem t1_3 : ty1 Tryz.prog 3 = true := by kernel_rfl
theorem t1_30 : ty1 Tryz.prog 30 = true := by kernel_rfl
theorem t1_32 : ty1 Tryz.prog 32 = true := by kernel_rfl
theorem t1_33 : ty1 Tryz.prog 33 = true := by kernel_rfl
theorem t1_37 : ty1 Tryz.prog 37 = true := by kernel_rfl
theorem t1_38 : ty1 Tryz.prog 38 = true := by kernel_rfl
theorem t1_39 : ty1 Tryz.prog 39 = true := by kernel_rfl
theorem t1_4 : ty1 Tryz.prog 4 = true := by kernel_rfl
theorem t1_40 : ty1 Tryz.prog 40 = true := by kernel_rfl
theorem t1_41 : ty1 Tryz.prog 41 = true := by kernel_rfl
theorem t1_42 : ty1 Tryz.prog 42 = true := by kernel_rfl
theorem t1_43 : ty1 Tryz.prog 43 = true := by kernel_rfl
theorem t1_44 : ty1 Tryz.prog 44 = true := by kernel_rfl
theorem t1_46 : ty1 Tryz.prog 46 = true := by kernel_rfl
theorem t1_47 : ty1 Tryz.prog 47 = true := by kernel_rfl
theorem t1_48 : ty1 Tryz.prog 48 = true := by kernel_rfl
theorem t1_5 : ty1 Tryz.prog 5 = true := by kernel_rfl
theorem t1_52 : ty1 Tryz.prog 52 = true := by kernel_rfl
theorem t1_53 : ty1 Tryz.prog 53 = true := by kernel_rfl
theorem t1_54 : ty1 Tryz.prog 54 = true := by kernel_rfl
theorem t1_55 : ty1 Tryz.prog 55 = true := by kernel_rfl
theorem t1_56 : ty1 Tryz.prog 56 = true := by kernel_rfl
theorem t1_57 : ty1 Tryz.prog 57 = true := by kernel_rfl
theorem t1_58 : ty1 Tryz.prog 58 = true := by kernel_rfl
theorem t1_59 : ty1 Tryz.prog 59 = true := by kernel_rfl
theorem t1_6 : ty1 Tryz.prog 6 = true := by kernel_rfl
theorem t1_60 : ty1 Tryz.prog 60 = true := by kernel_rfl
theorem t1_61 : ty1 Tryz.prog 61 = true := by kernel_rfl
theorem t1_62 : ty1 Tryz.prog 62 = true := by kernel_rfl
theorem t1_63 : ty1 Tryz.prog 63 = true := by kernel_rfl
theorem t1_64 : ty1 Tryz.prog 64 = true := by kernel_rfl
theorem t1_65 : ty1 Tryz.prog 65 = true := by kernel_rfl
theorem t1_66 : ty1 Tryz.prog 66 = true := by kernel_rfl
theorem t1_69 : ty1 Tryz.prog 69 = true := by kernel_rfl
theorem t1_70 : ty1 Tryz.prog 70 = true := by kernel_rfl
theorem t1_73 : ty1 Tryz.prog 73 = true := by kernel_rfl
theorem t1_74 : ty1 Tryz.prog 74 = true := by kernel_rfl
theorem t1_75 : ty1 Tryz.prog 75 = true := by kernel_rfl
theorem t1_76 : ty1 Tryz.prog 76 = true := by kernel_rfl
theorem t1_79 : ty1 Tryz.prog 79 = true := by kernel_rfl
theorem t1_80 : ty1 Tryz.prog 80 = true := by kernel_rfl
theorem t1_81 : ty1 Tryz.prog 81 = true := by kernel_rfl
theorem t1_82 : ty1 Tryz.prog 82 = true := by kernel_rfl
theorem t1_83 : ty1 Tryz.prog 83 = true := by kernel_rfl
theorem t1_86 : ty1 Tryz.prog 86 = true := by kernel_rfl
theorem t1_87 : ty1 Tryz.prog 87 = true := by kernel_rfl
theorem t1_88 : ty1 Tryz.prog 88 = true := by kernel_rfl
theorem t1_89 : ty1 Tryz.prog 89 = true := by kernel_rfl
theorem t1_9 : ty1 Tryz.prog 9 = true := by kernel_rfl
theorem t1_90 : ty1 Tryz.prog 90 = true := by kernel_rfl
theorem t1_91 : ty1 Tryz.prog 91 = true := by kernel_rfl
theorem t1_92 : ty1 Tryz.prog 92 = true := by kernel_rfl
theorem t1_93 : ty1 Tryz.prog 93 = true := by kernel_rfl
theorem t1_96 : ty1 Tryz.prog 96 = true := by kernel_rfl
theorem t1_98 : ty1 Tryz.prog 98 = true := by kernel_rfl
theorem t1_99 : ty1 Tryz.prog 99 = true := by kernel_rfl
theorem tN117 : tyN Tryz.prog 117 2 = true := by kernel_rfl
theorem tN14 : tyN Tryz.prog 14 2 = true := by kernel_rfl
theorem tN162 : tyN Tryz.prog 162 24 = true := by kernel_rfl
theorem tN167 : tyN Tryz.prog 167 3 = true := by kernel_rfl
theorem tN170 : tyN Tryz.prog 170 4 = true := by kernel_rfl
theorem tN176 : tyN Tryz.prog 176 3 = true := by kernel_rfl
theorem tN187 : tyN Tryz.prog 187 14 = true := by kernel_rfl
theorem tN188 : tyN Tryz.prog 188 5 = true := by kernel_rfl
theorem tN19 : tyN Tryz.prog 19 1 = true := by kernel_rfl
theorem tN192 : tyN Tryz.prog 192 20 = true := by kernel_rfl
theorem tN193 : tyN Tryz.prog 193 65 = true := by kernel_rfl
theorem tN197 : tyN Tryz.prog 197 2 = true := by kernel_rfl
theorem tN211 : tyN Tryz.prog 211 14 = true := by kernel_rfl
theorem tN213 : tyN Tryz.prog 213 32 = true := by kernel_rfl
theorem tN214 : tyN Tryz.prog 214 64 = true := by kernel_rfl
theorem tN219 : tyN Tryz.prog 219 4 = true := by kernel_rfl
theorem tN220 : tyN Tryz.prog 220 0 = true := by kernel_rfl
theorem tN222 : tyN Tryz.prog 222 0 = true := by kernel_rfl
theorem tN229 : tyN Tryz.prog 229 11 = true := by kernel_rfl
theorem tN24 : tyN Tryz.prog 24 4 = true := by kernel_rfl
theorem tN28 : tyN Tryz.prog 28 7 = true := by kernel_rfl
theorem tN35 : tyN Tryz.prog 35 4 = true := by kernel_rfl
theorem tN50 : tyN Tryz.prog 50 7 = true := by kernel_rfl
theorem tN68 : tyN Tryz.prog 68 5 = true := by kernel_rfl
theorem tN72 : tyN Tryz.prog 72 3 = true := by kernel_rfl
theorem tN78 : tyN Tryz.prog 78 2 = true := by kernel_rfl
theorem tN8 : tyN Tryz.prog 8 4 = true := by kernel_rfl
theorem tN85 : tyN Tryz.prog 85 2 = true := by kernel_rfl
theorem tN95 : tyN Tryz.prog 95 5 = true := by kernel_rfl
theorem tN97 : tyN Tryz.prog 97 3 = true := by kernel_rfl
theorem zr1 : zrT Tryz.prog 1 = some (.nilFunc) := by kernel_rfl
theorem zr10 : zrT Tryz.prog 10 = some (.string ⟨#[]⟩) := by kernel_rfl
theorem zr100 : zrT Tryz.prog 100 = some (.nilFunc) := by kernel_rfl
theorem zr101 : zrT Tryz.prog 101 = some (.nilFunc) := by kernel_rfl
theorem zr102 : zrT Tryz.prog 102 = some (.nilFunc) := by kernel_rfl
theorem zr103 : zrT Tryz.prog 103 = some (.nilFunc) := by kernel_rfl
theorem zr104 : zrT Tryz.prog 104 = some (.nilFunc) := by kernel_rfl
theorem zr105 : zrT Tryz.prog 105 = some (.nilFunc) := by kernel_rfl
theorem zr106 : zrT Tryz.prog 106 = some (.nilFunc) := by kernel_rfl
theorem zr107 : zrT Tryz.prog 107 = some (.nilFunc) := by kernel_rfl
theorem zr108 : zrT Tryz.prog 108 = some (.nilFunc) := by kernel_rfl
theorem zr109 : zrT Tryz.prog 109 = some (.nilFunc) := by kernel_rfl
theorem zr11 : zrT Tryz.prog 11 = some (.string ⟨#[]⟩) := by kernel_rfl
theorem zr110 : zrT Tryz.prog 110 = some (.nilFunc) := by kernel_rfl
theorem zr112 : zrT Tryz.prog 112 = some (.nilFunc) := by kernel_rfl
theorem zr113 : zrT Tryz.prog 113 = some (.nilFunc) := by kernel_rfl
theorem zr114 : zrT Tryz.prog 114 = some (.nilFunc) := by kernel_rfl
theorem zr115 : zrT Tryz.prog 115 = some (.slice none 0 0) := by kernel_rfl
theorem zr117 : zrT Tryz.prog 117 = some (.agg #[.string ⟨#[]⟩, .string ⟨#[]⟩]) := by kernel_rfl
theorem zr118 : zrT Tryz.prog 118 = some (.nilFunc) := by kernel_rfl
theorem zr119 : zrT Tryz.prog 119 = some (.slice none 0 0) := by kernel_rfl
theorem zr12 : zrT Tryz.prog 12 = some (.int .u64 0) := by kernel_rfl
theorem zr120 : zrT Tryz.prog 120 = some (.slice none 0 0) := by kernel_rfl
theorem zr121 : zrT Tryz.prog 121 = some (.nilFunc) := by kernel_rfl
theorem zr122 : zrT Tryz.prog 122 = some (.nilFunc) := by kernel_rfl
theorem zr123 : zrT Tryz.prog 123 = some (.nilFunc) := by kernel_rfl
theorem zr124 : zrT Tryz.prog 124 = some (.nilFunc) := by kernel_rfl
theorem zr125 : zrT Tryz.prog 125 = some (.nilFunc) := by kernel_rfl
theorem zr126 : zrT Tryz.prog 126 = some (.nilFunc) := by kernel_rfl
theorem zr127 : zrT Tryz.prog 127 = some (.nilFunc) := by kernel_rfl
theorem zr128 : zrT Tryz.prog 128 = some (.int .u64 0) := by kernel_rfl
theorem zr129 : zrT Tryz.prog 129 = some (.nilFunc) := by kernel_rfl
theorem zr130 : zrT Tryz.prog 130 = some (.nilFunc) := by kernel_rfl
theorem zr131 : zrT Tryz.prog 131 = some (.nilFunc) := by kernel_rfl
theorem zr132 : zrT Tryz.prog 132 = some (.nilFunc) := by kernel_rfl
theorem zr133 : zrT Tryz.prog 133 = some (.nilFunc) := by kernel_rfl
theorem zr134 : zrT Tryz.prog 134 = some (.nilFunc) := by kernel_rfl
theorem zr135 : zrT Tryz.prog 135 = some (.nilFunc) := by kernel_rfl
theorem zr136 : zrT Tryz.prog 136 = some (.int .u64 0) := by kernel_rfl
theorem zr137 : zrT Tryz.prog 137 = some (.nilFunc) := by kernel_rfl
theorem zr138 : zrT Tryz.prog 138 = some (.nilFunc) := by kernel_rfl
theorem zr139 : zrT Tryz.prog 139 = some (.nilFunc) := by kernel_rfl
theorem zr14 : zrT Tryz.prog 14 = some (.agg #[.string ⟨#[]⟩, .int .u64 0]) := by kernel_rfl
theorem zr140 : zrT Tryz.prog 140 = some (.nilFunc) := by kernel_rfl
theorem zr141 : zrT Tryz.prog 141 = some (.slice none 0 0) := by kernel_rfl
theorem zr142 : zrT Tryz.prog 142 = some (.nilFunc) := by kernel_rfl
theorem zr143 : zrT Tryz.prog 143 = some (.nilFunc) := by kernel_rfl
theorem zr144 : zrT Tryz.prog 144 = some (.nilFunc) := by kernel_rfl
theorem zr145 : zrT Tryz.prog 145 = some (.slice none 0 0) := by kernel_rfl
theorem zr146 : zrT Tryz.prog 146 = some (.nilFunc) := by kernel_rfl
theorem zr147 : zrT Tryz.prog 147 = some (.nilFunc) := by kernel_rfl
theorem zr148 : zrT Tryz.prog 148 = some (.int .i64 0) := by kernel_rfl
theorem zr15 : zrT Tryz.prog 15 = some (.pointer none) := by kernel_rfl
theorem zr150 : zrT Tryz.prog 150 = some (.nilFunc) := by kernel_rfl
theorem zr151 : zrT Tryz.prog 151 = some (.nilFunc) := by kernel_rfl
theorem zr152 : zrT Tryz.prog 152 = some (.nilFunc) := by kernel_rfl
theorem zr153 : zrT Tryz.prog 153 = some (.nilFunc) := by kernel_rfl
theorem zr155 : zrT Tryz.prog 155 = some (.nilFunc) := by kernel_rfl
theorem zr156 : zrT Tryz.prog 156 = some (.nilFunc) := by kernel_rfl
theorem zr157 : zrT Tryz.prog 157 = some (.int .u32 0) := by kernel_rfl
theorem zr158 : zrT Tryz.prog 158 = some (.nilFunc) := by kernel_rfl
theorem zr159 : zrT Tryz.prog 159 = some (.nilFunc) := by kernel_rfl
theorem zr16 : zrT Tryz.prog 16 = some (.pointer none) := by kernel_rfl
theorem zr160 : zrT Tryz.prog 160 = some (.nilFunc) := by kernel_rfl
theorem zr161 : zrT Tryz.prog 161 = some (.nilFunc) := by kernel_rfl
theorem zr163 : zrT Tryz.prog 163 = some (.nilFunc) := by kernel_rfl
theorem zr165 : zrT Tryz.prog 165 = some (.nilFunc) := by kernel_rfl
theorem zr167 : zrT Tryz.prog 167 = some (.agg #[.int .i64 0, .string ⟨#[]⟩, .int .i64 0]) := by kernel_rfl
theorem zr168 : zrT Tryz.prog 168 = some (.nilFunc) := by kernel_rfl
theorem zr17 : zrT Tryz.prog 17 = some (.pointer none) := by kernel_rfl
theorem zr170 : zrT Tryz.prog 170 = some (.agg #[.int .i64 0, .string ⟨#[]⟩, .int .i64 0, .slice none 0 0]) := by kernel_rfl
theorem zr171 : zrT Tryz.prog 171 = some (.nilFunc) := by kernel_rfl
theorem zr172 : zrT Tryz.prog 172 = some (.string ⟨#[]⟩) := by kernel_rfl
theorem zr173 : zrT Tryz.prog 173 = some (.nilFunc) := by kernel_rfl
theorem zr174 : zrT Tryz.prog 174 = some (.string ⟨#[]⟩) := by kernel_rfl
theorem zr175 : zrT Tryz.prog 175 = some (.string ⟨#[]⟩) := by kernel_rfl
theorem zr176 : zrT Tryz.prog 176 = some (.agg #[.int .i64 0, .string ⟨#[]⟩, .int .i64 0]) := by kernel_rfl
theorem zr177 : zrT Tryz.prog 177 = some (.slice none 0 0) := by kernel_rfl
theorem zr178 : zrT Tryz.prog 178 = some (.nilFunc) := by kernel_rfl
theorem zr179 : zrT Tryz.prog 179 = some (.nilFunc) := by kernel_rfl
theorem zr180 : zrT Tryz.prog 180 = some (.nilFunc) := by kernel_rfl
theorem zr181 : zrT Tryz.prog 181 = some (.int .u64 0) := by kernel_rfl
theorem zr182 : zrT Tryz.prog 182 = some (.nilFunc) := by kernel_rfl
theorem zr183 : zrT Tryz.prog 183 = some (.nilFunc) := by kernel_rfl
theorem zr184 : zrT Tryz.prog 184 = some (.nilFunc) := by kernel_rfl
theorem zr185 : zrT Tryz.prog 185 = some (.pointer none) := by kernel_rfl
theorem zr186 : zrT Tryz.prog 186 = some (.nilFunc) := by kernel_rfl
theorem zr189 : zrT Tryz.prog 189 = some (.nilFunc) := by kernel_rfl
theorem zr19 : zrT Tryz.prog 19 = some (.agg #[.pointer none]) := by kernel_rfl
theorem zr190 : zrT Tryz.prog 190 = some (.nilFunc) := by kernel_rfl
theorem zr191 : zrT Tryz.prog 191 = some (.nilFunc) := by kernel_rfl
theorem zr194 : zrT Tryz.prog 194 = some (.nilFunc) := by kernel_rfl
theorem zr195 : zrT Tryz.prog 195 = some (.pointer none) := by kernel_rfl
theorem zr197 : zrT Tryz.prog 197 = some (.agg #[.pointer none, .slice none 0 0]) := by kernel_rfl
theorem zr198 : zrT Tryz.prog 198 = some (.nilFunc) := by kernel_rfl
theorem zr199 : zrT Tryz.prog 199 = some (.nilIface) := by kernel_rfl
theorem zr2 : zrT Tryz.prog 2 = some (.int .i64 0) := by kernel_rfl
theorem zr20 : zrT Tryz.prog 20 = some (.nilIface) := by kernel_rfl
theorem zr200 : zrT Tryz.prog 200 = some (.nilIface) := by kernel_rfl
theorem zr202 : zrT Tryz.prog 202 = some (.nilFunc) := by kernel_rfl
theorem zr203 : zrT Tryz.prog 203 = some (.nilFunc) := by kernel_rfl
theorem zr204 : zrT Tryz.prog 204 = some (.slice none 0 0) := by kernel_rfl
theorem zr205 : zrT Tryz.prog 205 = some (.nilIface) := by kernel_rfl
theorem zr206 : zrT Tryz.prog 206 = some (.nilIface) := by kernel_rfl
theorem zr207 : zrT Tryz.prog 207 = some (.pointer none) := by kernel_rfl
theorem zr209 : zrT Tryz.prog 209 = some (.nilFunc) := by kernel_rfl
theorem zr21 : zrT Tryz.prog 21 = some (.int .i32 0) := by kernel_rfl
theorem zr210 : zrT Tryz.prog 210 = some (.nilFunc) := by kernel_rfl
theorem zr212 : zrT Tryz.prog 212 = some (.pointer none) := by kernel_rfl
theorem zr216 : zrT Tryz.prog 216 = some (.nilFunc) := by kernel_rfl
theorem zr217 : zrT Tryz.prog 217 = some (.nilFunc) := by kernel_rfl
theorem zr219 : zrT Tryz.prog 219 = some (.agg #[.pointer none, .pointer none, .pointer none, .string ⟨#[]⟩]) := by kernel_rfl
theorem zr22 : zrT Tryz.prog 22 = some (.slice none 0 0) := by kernel_rfl
theorem zr222 : zrT Tryz.prog 222 = some (.agg #[]) := by kernel_rfl
theorem zr223 : zrT Tryz.prog 223 = some (.int .u8 0) := by kernel_rfl
theorem zr224 : zrT Tryz.prog 224 = some (.int .u8 0) := by kernel_rfl
theorem zr225 : zrT Tryz.prog 225 = some (.nilFunc) := by kernel_rfl
theorem zr226 : zrT Tryz.prog 226 = some (.int .i32 0) := by kernel_rfl
theorem zr227 : zrT Tryz.prog 227 = some (.int .i32 0) := by kernel_rfl
theorem zr229 : zrT Tryz.prog 229 = some (.agg #[.int .u64 0, .int .u64 0, .int .u32 0, .int .u8 0, .int .u8 0, .int .u8 0, .int .u8 0, .nilFunc, .pointer none, .int .i32 0, .int .i32 0]) := by kernel_rfl
theorem zr24 : zrT Tryz.prog 24 = some (.agg #[.int .i64 0, .string ⟨#[]⟩, .int .i64 0, .slice none 0 0]) := by kernel_rfl
theorem zr25 : zrT Tryz.prog 25 = some (.slice none 0 0) := by kernel_rfl
theorem zr26 : zrT Tryz.prog 26 = some (.slice none 0 0) := by kernel_rfl
theorem zr28 : zrT Tryz.prog 28 = some (.agg #[.slice none 0 0, .slice none 0 0, .slice none 0 0, .int .i64 0, .string ⟨#[]⟩, .int .i64 0, .slice none 0 0]) := by kernel_rfl
theorem zr29 : zrT Tryz.prog 29 = some (.slice none 0 0) := by kernel_rfl
theorem zr3 : zrT Tryz.prog 3 = some (.int .i64 0) := by kernel_rfl
theorem zr30 : zrT Tryz.prog 30 = some (.nilFunc) := by kernel_rfl
theorem zr32 : zrT Tryz.prog 32 = some (.nilFunc) := by kernel_rfl
theorem zr33 : zrT Tryz.prog 33 = some (.slice none 0 0) := by kernel_rfl
theorem zr35 : zrT Tryz.prog 35 = some (.agg #[.int .i64 0, .string ⟨#[]⟩, .int .i64 0, .slice none 0 0]) := by kernel_rfl
theorem zr37 : zrT Tryz.prog 37 = some (.nilFunc) := by kernel_rfl
theorem zr38 : zrT Tryz.prog 38 = some (.nilFunc) := by kernel_rfl
theorem zr39 : zrT Tryz.prog 39 = some (.nilFunc) := by kernel_rfl
theorem zr4 : zrT Tryz.prog 4 = some (.bool false) := by kernel_rfl
theorem zr40 : zrT Tryz.prog 40 = some (.nilFunc) := by kernel_rfl
theorem zr41 : zrT Tryz.prog 41 = some (.nilFunc) := by kernel_rfl
theorem zr42 : zrT Tryz.prog 42 = some (.nilFunc) := by kernel_rfl
theorem zr43 : zrT Tryz.prog 43 = some (.slice none 0 0) := by kernel_rfl
theorem zr44 : zrT Tryz.prog 44 = some (.int .i64 0) := by kernel_rfl
theorem zr46 : zrT Tryz.prog 46 = some (.nilFunc) := by kernel_rfl
theorem zr47 : zrT Tryz.prog 47 = some (.slice none 0 0) := by kernel_rfl
theorem zr48 : zrT Tryz.prog 48 = some (.slice none 0 0) := by kernel_rfl
theorem zr5 : zrT Tryz.prog 5 = some (.int .u8 0) := by kernel_rfl
theorem zr50 : zrT Tryz.prog 50 = some (.agg #[.slice none 0 0, .slice none 0 0, .slice none 0 0, .int .i64 0, .string ⟨#[]⟩, .int .i64 0, .slice none 0 0]) := by kernel_rfl
theorem zr52 : zrT Tryz.prog 52 = some (.nilFunc) := by kernel_rfl
theorem zr53 : zrT Tryz.prog 53 = some (.nilFunc) := by kernel_rfl
theorem zr54 : zrT Tryz.prog 54 = some (.nilFunc) := by kernel_rfl
theorem zr55 : zrT Tryz.prog 55 = some (.nilFunc) := by kernel_rfl
theorem zr56 : zrT Tryz.prog 56 = some (.int .u16 0) := by kernel_rfl
theorem zr57 : zrT Tryz.prog 57 = some (.nilFunc) := by kernel_rfl
theorem zr58 : zrT Tryz.prog 58 = some (.slice none 0 0) := by kernel_rfl
theorem zr59 : zrT Tryz.prog 59 = some (.nilFunc) := by kernel_rfl
theorem zr6 : zrT Tryz.prog 6 = some (.int .u8 0) := by kernel_rfl
theorem zr60 : zrT Tryz.prog 60 = some (.nilFunc) := by kernel_rfl
theorem zr61 : zrT Tryz.prog 61 = some (.nilFunc) := by kernel_rfl
theorem zr62 : zrT Tryz.prog 62 = some (.nilFunc) := by kernel_rfl
theorem zr63 : zrT Tryz.prog 63 = some (.nilFunc) := by kernel_rfl
theorem zr64 : zrT Tryz.prog 64 = some (.nilFunc) := by kernel_rfl
theorem zr65 : zrT Tryz.prog 65 = some (.nilFunc) := by kernel_rfl
theorem zr66 : zrT Tryz.prog 66 = some (.nilFunc) := by kernel_rfl
theorem zr68 : zrT Tryz.prog 68 = some (.agg #[.string ⟨#[]⟩, .int .i64 0, .string ⟨#[]⟩, .int .i64 0, .slice none 0 0]) := by kernel_rfl
theorem zr69 : zrT Tryz.prog 69 = some (.nilFunc) := by kernel_rfl
theorem zr70 : zrT Tryz.prog 70 = some (.nilFunc) := by kernel_rfl
theorem zr72 : zrT Tryz.prog 72 = some (.agg #[.string ⟨#[]⟩, .string ⟨#[]⟩, .int .i64 0]) := by kernel_rfl
theorem zr73 : zrT Tryz.prog 73 = some (.nilFunc) := by kernel_rfl
theorem zr74 : zrT Tryz.prog 74 = some (.nilFunc) := by kernel_rfl
theorem zr75 : zrT Tryz.prog 75 = some (.pointer none) := by kernel_rfl
theorem zr76 : zrT Tryz.prog 76 = some (.map none) := by kernel_rfl
theorem zr78 : zrT Tryz.prog 78 = some (.agg #[.map none, .int .i64 0]) := by kernel_rfl
theorem zr79 : zrT Tryz.prog 79 = some (.nilFunc) := by kernel_rfl
theorem zr8 : zrT Tryz.prog 8 = some (.agg #[.int .i64 0, .int .i64 0, .bool false, .int .u8 0]) := by kernel_rfl
theorem zr80 : zrT Tryz.prog 80 = some (.nilFunc) := by kernel_rfl
theorem zr81 : zrT Tryz.prog 81 = some (.nilFunc) := by kernel_rfl
theorem zr82 : zrT Tryz.prog 82 = some (.nilFunc) := by kernel_rfl
theorem zr83 : zrT Tryz.prog 83 = some (.pointer none) := by kernel_rfl
theorem zr85 : zrT Tryz.prog 85 = some (.agg #[.slice none 0 0, .int .i64 0]) := by kernel_rfl
theorem zr86 : zrT Tryz.prog 86 = some (.nilFunc) := by kernel_rfl
theorem zr87 : zrT Tryz.prog 87 = some (.nilFunc) := by kernel_rfl
theorem zr88 : zrT Tryz.prog 88 = some (.nilFunc) := by kernel_rfl
theorem zr89 : zrT Tryz.prog 89 = some (.nilFunc) := by kernel_rfl
theorem zr9 : zrT Tryz.prog 9 = some (.string ⟨#[]⟩) := by kernel_rfl
theorem zr90 : zrT Tryz.prog 90 = some (.nilFunc) := by kernel_rfl
theorem zr91 : zrT Tryz.prog 91 = some (.nilFunc) := by kernel_rfl
theorem zr92 : zrT Tryz.prog 92 = some (.nilFunc) := by kernel_rfl
theorem zr93 : zrT Tryz.prog 93 = some (.nilFunc) := by kernel_rfl
theorem zr95 : zrT Tryz.prog 95 = some (.agg #[.string ⟨#[]⟩, .int .i64 0, .string ⟨#[]⟩, .int .i64 0, .slice none 0 0]) := by kernel_rfl
theorem zr96 : zrT Tryz.prog 96 = some (.nilFunc) := by kernel_rfl
theorem zr97 : zrT Tryz.prog 97 = some (.agg #[.string ⟨#[]⟩, .string ⟨#[]⟩, .int .i64 0]) := by kernel_rfl
theorem zr98 : zrT Tryz.prog 98 = some (.nilFunc) := by kernel_rfl
theorem zr99 : zrT Tryz.prog 99 = some (.map none) := by kernel_rfl
end Go.Proofs.YtindlieilabgfaaGreatDoor
